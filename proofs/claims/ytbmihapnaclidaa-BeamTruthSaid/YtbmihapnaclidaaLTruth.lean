/-
  BeamTruth: what it looks at is so, for every take-up in bytes, every span, truth and notes.
-/
import Derived.Test.YtbmihapnaclidaaF1
import Derived.Test.YtbmihapnaclidaaE1
import Derived.Test.YtbmihapnaclidaaFlat
import Derived.Test.YtbmihapnaclidaaKnown
set_option linter.all false
namespace Go.Abs
set_option maxRecDepth 10000
set_option maxHeartbeats 8000000

theorem long_any (t : TakeA) (hc : checkT t = 0) (p r : Int) (h0 : 0 ≤ p) (h1 : p ≤ 100000) (h2 : 0 ≤ r) (h3 : r ≤ 1000) : longR (numT t) (denT t) p r = longT t p r := by
  have hb := numT_bound hc
  have hg := gT_pos hc
  obtain ⟨a, ha⟩ : gT t ∣ (numT t).toNat := Nat.gcd_dvd_left _ _
  obtain ⟨b, hb'⟩ : gT t ∣ (denT t).toNat := Nat.gcd_dvd_right _ _
  have ea : nT t = a := by unfold nT; rw [ha, Nat.mul_div_cancel_left _ hg]
  have eb : dT t = b := by unfold dT; rw [hb', Nat.mul_div_cancel_left _ hg]
  have e1 : numT t = (gT t : Int) * a := by rw [← Int.natCast_mul, ← ha]; omega
  have e2 : denT t = (gT t : Int) * b := by rw [← Int.natCast_mul, ← hb']; omega
  unfold longT longR
  rw [ea, eb, e1, e2]
  rw [show p * ((gT t : Int) * a) * (1000 - r) = (gT t : Int) * (p * a * (1000 - r)) by rw [Int.mul_left_comm p, Int.mul_assoc], Int.mul_assoc (gT t : Int) b 1000]
  exact Int.mul_ediv_mul_of_pos _ _ (show (0 : Int) < gT t by omega)

/-- the quotient that the statement writes, and its bounds -/
theorem long_div (t : TakeA) (hc : checkT t = 0) (p r : Int) (h0 : 0 ≤ p) (h1 : p ≤ 5000) (h2 : 0 ≤ r) (h3 : r ≤ 1000) :
    (0 ≤ p * numT t ∧ p * numT t ≤ 125000000000000) ∧ (0 ≤ p * numT t * (1000 - r) ∧ p * numT t * (1000 - r) ≤ 125000000000000000) ∧ Int.tdiv (p * numT t * (1000 - r)) (denT t * 1000) = longT t p r ∧ 0 ≤ longT t p r ∧ longT t p r ≤ 125000000000000000 := by
  have hb := numT_bound hc
  have a1 : 0 ≤ p * numT t := Int.mul_nonneg h0 (by omega)
  have a2 : p * numT t ≤ 5000 * 25000000000 := Int.mul_le_mul h1 (by omega) (by omega) (by omega)
  have a3 : 0 ≤ p * numT t * (1000 - r) := Int.mul_nonneg a1 (by omega)
  have a4 : p * numT t * (1000 - r) ≤ 125000000000000 * 1000 := Int.mul_le_mul (by omega) (by omega) (by omega) (by omega)
  have e := long_any t hc p r h0 (by omega) h2 h3
  have a5 : 0 ≤ longR (numT t) (denT t) p r := Int.ediv_nonneg a3 (by omega)
  have a6 : longR (numT t) (denT t) p r ≤ p * numT t * (1000 - r) := Int.ediv_le_self _ a3
  refine ⟨⟨a1, by omega⟩, ⟨a3, by omega⟩, ?_, by omega, by omega⟩
  rw [Int.tdiv_eq_ediv_of_nonneg a3]
  exact e

abbrev ThreeB := Fin 65536 × Fin 65536 × Fin 65536
def ThreeB.av (x : ThreeB) : AV := .agg [.int .u16 (x.1.1 : Int), .int .u16 (x.2.1.1 : Int), .int .u16 (x.2.2.1 : Int)]
@[go_sem] theorem threeB_plain (l : List ThreeB) : (l.map ThreeB.av).all AV.plain = true := by
  simp [ThreeB.av, AV.plain, AV.plain1]

theorem relax_fine (t : TakeA) (hc : checkT t = 0) (s : Int × Int) (hs : SpanOk s.1 s.2 0 200) (ns : List NoteA) (hok : ∀ n ∈ ns, n.Ok) (hlen : ns.length ≤ 20) (u : Int) (hu : s.1 ≤ u ∧ u ≤ s.2) (hT : ∀ n ∈ ns, noteTrue t n u) (k : Nat) (hk : k ≤ ns.length) :
    lim F 29 [t.av, .agg [iv s.1, iv s.2], .list 3 ((ns.map NoteA.av).take k)] = some (.tuple [.agg [iv (spanAt t s ns k).1, iv (spanAt t s ns k).2], iv 0, iv 0], []) ∧ (spanAt t s ns k).1 ≤ u ∧ u ≤ (spanAt t s ns k).2 := by
  have hin : ∀ j, j ≤ ns.length → (spanAt t s ns j).1 ≤ u ∧ u ≤ (spanAt t s ns j).2 := fun j hj => by
    have h := (spanAt_iff hc hok hs u.toNat (by omega) hj).2 ⟨by omega, fun x hx => by rw [show ((u.toNat : Nat) : Int) = u by omega]; exact hT x (List.mem_of_mem_take hx)⟩
    omega
  refine ⟨?_, hin k hk⟩
  have h := Relaxed_ok t s (ns.take k) (by rw [List.length_take]; omega)
  have hl : (ns.take k).length = k := by rw [List.length_take]; omega
  have sp : ∀ j, j ≤ k → spanAt t s (ns.take k) j = spanAt t s ns j := fun j hj => by
    unfold spanAt
    rw [List.take_take, Nat.min_eq_left hj]
  have hb : badAt t s (ns.take k) = (ns.take k).length := firstP_eq (by omega) (fun j hj => by
    rw [sp (j + 1) (by omega)]
    have := hin (j + 1) (by omega)
    exact decide_eq_false (by omega)) (fun h => by omega)
  have hE : relE t s (ns.take k) = 0 := by
    unfold relE
    rw [if_pos hc, if_pos hs, if_neg (by omega), if_pos (fun x hx => hok x (List.mem_of_mem_take hx)), hb, if_neg (by omega)]
  unfold relV relAt at h
  rw [hE, if_pos rfl, if_neg (by omega), hl, sp k (by omega), List.map_take] at h
  exact h

theorem notesOwn_ok (l : List NoteA) (hl : l.length < 1000000) : lim F 27 [.list 3 (l.map NoteA.av)] = some (.own 3 (l.map NoteA.av), []) := by
  refine lim_by (fn := a27) (k := 1) (res := [.tmp 2]) rfl rfl rfl (by simp -implicitDefEqProofs (maxSteps := 2000000) (disch := first | exact tt_rfl rfl | omega | (simp only [go_sem] <;> omega) | fail) only [go_sem]) ?_
  simp -implicitDefEqProofs (maxSteps := 2000000) (disch := first | exact tt_rfl rfl | omega | (simp only [go_sem] <;> omega) | fail) only [go_sem]
  repeat (first | apply Wp.seqA | apply Wp.skipS | apply Wp.blockS | ((first | apply Wp.regS | apply Wp.condV | apply Wp.reg | apply Wp.condW | apply fin_ret); simp -implicitDefEqProofs (maxSteps := 2000000) (disch := first | exact tt_rfl rfl | omega | (simp only [go_sem] <;> omega) | fail) only [go_sem] <;> try with_reducible rfl) | apply Wp.block | apply Wp.exitS | apply Wp.retS | apply Wp.exit | apply Wp.ret | apply Wp.skip)

theorem truth_main (t : TakeA) (hc : checkT t = 0) (x : GearA) (ht : t = gearT x) (v0 v1 v2 lo hi : Int) (by' : List ThreeB) (hby : True)
    (q0 : 0 ≤ v0 ∧ v0 ≤ 255) (q1 : 0 ≤ v1 ∧ v1 ≤ 255) (q2 : 0 ≤ v2 ∧ v2 ≤ 255) (m0 : Int.tmod v0 150 = lo) (x1 : Int) (m1 : Int.tmod v1 50 = x1) (m2 : lo + x1 = hi) (b0 : 0 ≤ lo ∧ lo ≤ 149) (b1 : 0 ≤ x1 ∧ x1 ≤ 49) :
    lim F 10 [x.av, .agg [.int .u8 v0, .int .u8 v1, .int .u8 v2], .list 3 (by'.map ThreeB.av)] = some (.bool true, []) := by
  have kn := known_ok
  obtain ⟨hl, ⟨g1, g2, g3⟩, hp⟩ := checkT_zero hc
  have h0 := gearTake_ok x
  rw [← ht] at h0
  have h1 := parts_ok t hc
  have h2 := own_ok t (by omega)
  have h3 := span_ok lo hi
  have h4 := inside_ok lo hi v2 (by omega) (by omega) (by omega) (by omega)
  have hs : SpanOk lo hi 0 200 := by omega
  have ub := insideV_in v2 (show lo ≤ hi by omega)
  generalize insideV lo hi v2 = u at h4 ub
  have mb := numT_bound hc
  unfold GearA.av TakeA.av at *
  refine lim_by (fn := a10) (k := 3) (res := [.tmp 6]) rfl rfl rfl (by simp -implicitDefEqProofs (maxSteps := 2000000) (disch := first | exact tt_rfl rfl | omega | (simp only [go_sem] <;> omega) | fail) only [go_sem]) ?_
  simp -implicitDefEqProofs (maxSteps := 2000000) (disch := first | exact tt_rfl rfl | omega | (simp only [go_sem] <;> omega) | fail) only [go_sem]
  repeat (first | apply Wp.seqA | apply Wp.skipS | apply Wp.blockS | ((first | apply Wp.regS | apply Wp.condV | apply Wp.reg | apply Wp.condW | apply fin_ret); simp -implicitDefEqProofs (maxSteps := 2000000) (disch := first | exact tt_rfl rfl | omega | (simp only [go_sem] <;> omega) | fail) only [go_sem, h0, h1, h2, h3, h4, m0, m1, m2] <;> try with_reducible rfl) | apply Wp.block | apply Wp.exitS | apply Wp.retS | apply Wp.exit | apply Wp.ret | apply Wp.skip)
  apply Wp.loopN (min by'.length 15) (fun i fr => ∃ ns : List NoteA, fr = ⟨[(2, .list 3 (by'.map ThreeB.av)), (7, .ptr 448 0 0), (8, iv (numT t)), (9, iv (denT t)), (10, .ptr 640 0 0), (11, iv u), (12, .slice 768 0 ns.length), (13, iv i)],
      [(448, .box [iv t.rat, iv t.step, .slice 307170 0 t.pairs.length, iv t.round]), (640, .box [iv lo, iv hi]), (768, .arr 3 (ns.map NoteA.av)), (307170, .arr 2 (t.pairs.map PairT.av))], [], 10000000⟩ ∧
    ns.length ≤ i ∧ ∀ n ∈ ns, n.Ok ∧ n.p ≤ 5000 ∧ noteTrue t n u)
  · simp -implicitDefEqProofs (maxSteps := 2000000) (disch := first | exact tt_rfl rfl | omega | (simp only [go_sem] <;> omega) | fail) only [go_sem, norm_eq, Ok.some]
    exact ⟨[], rfl, by simp, by simp⟩
  rintro i fr hi' ⟨ns, rfl, hlen, hns⟩
  by_cases hlt : i < by'.length
  · by_cases h15 : i < 15
    · have w0 := by'[i].1.2
      have w1 := by'[i].2.1.2
      have w2 := by'[i].2.2.2
      have e0 := tmod_nat by'[i].1.1 5000
      rw [show ((5000 : Nat) : Int) = 5000 from rfl] at e0
      obtain ⟨p, hpe⟩ : ∃ p : Int, p = 1 + ((by'[i].1.1 % 5000 : Nat) : Int) := ⟨_, rfl⟩
      have pb : 1 ≤ p ∧ p ≤ 5000 := by omega
      obtain ⟨d1, d2, d3, d4⟩ := long_div t hc p u (by omega) (by omega) (by omega) (by omega)
      obtain ⟨_, d5, d6, d9⟩ := long_div t hc p hi (by omega) (by omega) (by omega) (by omega)
      obtain ⟨_, d7, d8, d10⟩ := long_div t hc p lo (by omega) (by omega) (by omega) (by omega)
      have hF := Figure_ok t lo hi p
      have eF : figE t lo hi p = 0 := by unfold figE; rw [if_pos hc, if_pos hs, if_pos (by omega)]
      rw [eF, if_pos rfl, if_pos rfl] at hF
      unfold TakeA.av at hF
      have hR := tkR hc (p := p) (by omega) (by omega)
      have f1 : longT t p hi ≤ longT t p u := hR.mono (by omega)
      have f2 : longT t p u ≤ longT t p lo := hR.mono (by omega)
      have h5 := span_ok (longT t p hi) (longT t p lo)
      have h6 := span_ok (max 0 (longT t p u - (by'[i].2.1.1 : Int))) (longT t p u + (by'[i].2.2.1 : Int))
      have nl : (ns.map NoteA.av).length = ns.length := by simp
      have nT : noteTrue t ⟨p, max 0 (longT t p u - (by'[i].2.1.1 : Int)), longT t p u + (by'[i].2.2.1 : Int)⟩ u := by
        unfold noteTrue; simp only; omega
      generalize longT t p u = lu at *
      generalize longT t p hi = lh at *
      generalize longT t p lo = ll at *
      generalize hns' : ns.map NoteA.av = es at nl
      by_cases hbig : 10000000000 < lu + (by'[i].2.2.1 : Int)
      · repeat (first | apply Wp.seqA | apply Wp.skipS | apply Wp.blockS | ((first | apply Wp.regS | apply Wp.condV | apply Wp.reg | apply Wp.condW | apply fin_ret); simp -implicitDefEqProofs (maxSteps := 2000000) (disch := first | exact tt_rfl rfl | omega | (simp only [go_sem] <;> omega) | fail) only [go_sem, hlt, Int.ofNat_lt, show (i : Int) < 15 by omega, List.getElem?_map, List.getElem?_eq_getElem hlt, Option.map_some, ThreeB.av.eq_1, e0, ← hpe, d3, d6, d8, hF, h2, f1, f2, h5, h6, Int.not_lt.2 f1, Int.not_lt.2 f2, bne_self_eq_false, gt_iff_lt, hbig, show denT t * 1000 ≠ 0 by omega] <;> try with_reducible rfl) | apply Wp.block | apply Wp.exitS | apply Wp.retS | apply Wp.exit | apply Wp.ret | apply Wp.skip)
        apply round_next (Q := fun _ _ => False)
        · simp -implicitDefEqProofs (maxSteps := 2000000) (disch := first | exact tt_rfl rfl | omega | (simp only [go_sem] <;> omega) | fail) only [go_sem, norm_eq, Ok.some]; with_reducible rfl
        exact ⟨by omega, ns, by rw [hns']; simp, by omega, hns⟩
      · repeat (first | apply Wp.seqA | apply Wp.skipS | apply Wp.blockS | ((first | apply Wp.regS | apply Wp.condV | apply Wp.reg | apply Wp.condW | apply fin_ret); simp -implicitDefEqProofs (maxSteps := 2000000) (disch := first | exact tt_rfl rfl | omega | (simp only [go_sem] <;> omega) | fail) only [go_sem, hlt, Int.ofNat_lt, show (i : Int) < 15 by omega, List.getElem?_map, List.getElem?_eq_getElem hlt, Option.map_some, ThreeB.av.eq_1, e0, ← hpe, d3, d6, d8, hF, h2, f1, f2, h5, h6, Int.not_lt.2 f1, Int.not_lt.2 f2, bne_self_eq_false, gt_iff_lt, hbig, nl, show denT t * 1000 ≠ 0 by omega] <;> try with_reducible rfl) | apply Wp.block | apply Wp.exitS | apply Wp.retS | apply Wp.exit | apply Wp.ret | apply Wp.skip)
        apply round_next (Q := fun _ _ => False)
        · simp -implicitDefEqProofs (maxSteps := 2000000) (disch := first | exact tt_rfl rfl | omega | (simp only [go_sem] <;> omega) | fail) only [go_sem, norm_eq, Ok.some]; with_reducible rfl
        refine ⟨by omega, ns ++ [⟨p, max 0 (lu - (by'[i].2.1.1 : Int)), lu + (by'[i].2.2.1 : Int)⟩], ?_, by simp; omega, fun n hn => ?_⟩
        · rw [List.map_append, hns']
          simp [NoteA.av]
        · rcases List.mem_append.1 hn with h | h
          · exact hns n h
          · rw [List.mem_singleton.1 h]
            exact ⟨⟨by simp only; omega, by simp only; omega⟩, by simp only; omega, nT⟩
    · repeat (first | apply Wp.seqA | apply Wp.skipS | apply Wp.blockS | ((first | apply Wp.regS | apply Wp.condV | apply Wp.reg | apply Wp.condW | apply fin_ret); simp -implicitDefEqProofs (maxSteps := 2000000) (disch := first | exact tt_rfl rfl | omega | (simp only [go_sem] <;> omega) | fail) only [go_sem, hlt, Int.ofNat_lt, show ¬ (i : Int) < 15 by omega] <;> try with_reducible rfl) | apply Wp.block | apply Wp.exitS | apply Wp.retS | apply Wp.exit | apply Wp.ret | apply Wp.skip)
      have hnl : ns.length ≤ 15 := by omega
      have hok : ∀ n ∈ ns, n.Ok := fun n hn => (hns n hn).1
      have fine := relax_fine t hc (lo, hi) hs ns hok (by omega) u ub fun n hn => (hns n hn).2.2
      unfold TakeA.av at fine
      clear m0 m1 m2 h0 h1 h3 h4 hby
      apply Wp.loopF (ns.length + 1) (fun k => ⟨[(7, .ptr 448 0 0), (8, iv (numT t)), (9, iv (denT t)), (10, .ptr 640 0 0), (11, iv u), (12, .slice 768 0 ns.length), (19, .ptr 1216 0 0), (20, iv k)], [(448, .box [iv t.rat, iv t.step, .slice 307170 0 t.pairs.length, iv t.round]), (640, .box [iv lo, iv hi]), (768, .arr 3 (ns.map NoteA.av)), (1216, .box [iv (spanAt t (lo, hi) ns (k - 1)).1, iv (spanAt t (lo, hi) ns (k - 1)).2]), (307170, .arr 2 (t.pairs.map PairT.av))], [], 10000000⟩) (fun _ => True)
      · simp -implicitDefEqProofs (maxSteps := 2000000) (disch := first | exact tt_rfl rfl | omega | (simp only [go_sem] <;> omega) | fail) only [go_sem, norm_eq, Ok.some]
        rfl
      · trivial
      intro k hk _
      by_cases hkl : k ≤ ns.length
      · obtain ⟨k1, k2, k3⟩ := fine k hkl
        have k4 := notesOwn_ok (ns.take k) (by rw [List.length_take]; omega)
        rw [List.map_take] at k4
        have sb := spanAt_in (t := t) (s := (lo, hi)) (l := ns) (i := k)
        rw [show spanAt t (lo, hi) ns 0 = (lo, hi) from rfl] at sb
        simp only at sb
        have sp : (spanAt t (lo, hi) ns (k - 1)).1 ≤ (spanAt t (lo, hi) ns k).1 ∧ (spanAt t (lo, hi) ns k).2 ≤ (spanAt t (lo, hi) ns (k - 1)).2 := by
          match k, hkl with
          | 0, _ => exact ⟨Int.le_refl _, Int.le_refl _⟩
          | k + 1, hkl =>
            rw [spanAt_succ (by omega), Nat.add_sub_cancel]
            unfold noteStep
            simp only
            omega
        have low := (spanAt_iff (s := (lo, hi)) hc hok hs (spanAt t (lo, hi) ns k).1.toNat (by omega) hkl).1 ⟨by omega, by omega⟩
        have high := (spanAt_iff (s := (lo, hi)) hc hok hs (spanAt t (lo, hi) ns k).2.toNat (by omega) hkl).1 ⟨by omega, by omega⟩
        rw [show (((spanAt t (lo, hi) ns k).1.toNat : Nat) : Int) = (spanAt t (lo, hi) ns k).1 by omega] at low
        rw [show (((spanAt t (lo, hi) ns k).2.toNat : Nat) : Int) = (spanAt t (lo, hi) ns k).2 by omega] at high
        have ll : (ns.map NoteA.av).length = ns.length := by simp
        have hpl : ((ns.map NoteA.av).take k).all AV.plain = true := List.all_eq_true.2 fun a ha => List.all_eq_true.1 (noteA_plain ns) a (List.mem_of_mem_take ha)
        have k1' := k1
        generalize hsk : spanAt t (lo, hi) ns k = sk at k1 k2 k3 sb sp low high k1'
        generalize hsj : spanAt t (lo, hi) ns (k - 1) = sj at sp
        generalize hes : (ns.map NoteA.av).take k = es at k1 k4 hpl
        repeat (first | apply Wp.seqA | apply Wp.skipS | apply Wp.blockS | ((first | apply Wp.regS | apply Wp.condV | apply Wp.reg | apply Wp.condW | apply fin_ret); simp -implicitDefEqProofs (maxSteps := 2000000) (disch := first | exact tt_rfl rfl | omega | (simp only [go_sem] <;> omega) | fail) only [go_sem, show (k : Int) ≤ ns.length by omega, show ((k : Int) - 0).toNat = k by omega, h2, k1, k4, ll, hes, hpl, gt_iff_lt, Int.not_lt.2 k2, Int.not_lt.2 k3, Int.not_lt.2 sp.1, Int.not_lt.2 sp.2] <;> try with_reducible rfl) | apply Wp.block | apply Wp.exitS | apply Wp.retS | apply Wp.exit | apply Wp.ret | apply Wp.skip)
        clear k1 k4 k1' hes hpl
        apply Wp.loopF k (fun i => ⟨[(7, .ptr 448 0 0), (8, iv (numT t)), (9, iv (denT t)), (10, .ptr 640 0 0), (11, iv u), (12, .slice 768 0 ns.length), (19, .ptr 1216 0 0), (20, iv k), (21, .ptr 1344 0 0), (24, iv i)], [(448, .box [iv t.rat, iv t.step, .slice 307170 0 t.pairs.length, iv t.round]), (640, .box [iv lo, iv hi]), (768, .arr 3 (ns.map NoteA.av)), (1216, .box [iv sj.1, iv sj.2]), (1344, .box [iv sk.1, iv sk.2]), (307170, .arr 2 (t.pairs.map PairT.av))], [], 10000000⟩) (fun _ => True)
        · simp -implicitDefEqProofs (maxSteps := 2000000) (disch := first | exact tt_rfl rfl | omega | (simp only [go_sem] <;> omega) | fail) only [go_sem, norm_eq, Ok.some]
          rfl
        · trivial
        intro i hik _
        by_cases hil : i < k
        · have hn := hns ns[i] (List.getElem_mem (by omega))
          have mem : ns[i] ∈ ns.take k := List.mem_take_iff_getElem.2 ⟨i, by omega, rfl⟩
          have nl := low.2 _ mem
          have nh := high.2 _ mem
          unfold noteTrue at nl nh
          obtain ⟨a1, a2, a3, _⟩ := long_div t hc ns[i].p sk.1 (by omega) (by omega) (by omega) (by omega)
          obtain ⟨_, a5, a6, _⟩ := long_div t hc ns[i].p sk.2 (by omega) (by omega) (by omega) (by omega)
          have eg : ns[i]? = some ns[i] := List.getElem?_eq_getElem (by omega)
          repeat (first | apply Wp.seqA | apply Wp.skipS | apply Wp.blockS | ((first | apply Wp.regS | apply Wp.condV | apply Wp.reg | apply Wp.condW | apply fin_ret); simp -implicitDefEqProofs (maxSteps := 2000000) (disch := first | exact tt_rfl rfl | omega | (simp only [go_sem] <;> omega) | fail) only [go_sem, show (i : Int) < k by omega] <;> try with_reducible rfl) | apply Wp.block | apply Wp.exitS | apply Wp.retS | apply Wp.exit | apply Wp.ret | apply Wp.skip)
          apply Wp.loopF 2 (fun j => ⟨[(7, .ptr 448 0 0), (8, iv (numT t)), (9, iv (denT t)), (10, .ptr 640 0 0), (11, iv u), (12, .slice 768 0 ns.length), (19, .ptr 1216 0 0), (20, iv k), (21, .ptr 1344 0 0), (24, iv i), (25, iv j)], [(448, .box [iv t.rat, iv t.step, .slice 307170 0 t.pairs.length, iv t.round]), (640, .box [iv lo, iv hi]), (768, .arr 3 (ns.map NoteA.av)), (1216, .box [iv sj.1, iv sj.2]), (1344, .box [iv sk.1, iv sk.2]), (307170, .arr 2 (t.pairs.map PairT.av))], [], 10000000⟩) (fun _ => True)
          · simp -implicitDefEqProofs (maxSteps := 2000000) (disch := first | exact tt_rfl rfl | omega | (simp only [go_sem] <;> omega) | fail) only [go_sem, norm_eq, Ok.some]
            rfl
          · trivial
          intro j hj _
          match j, hj with
          | 0, _ =>
            repeat (first | apply Wp.seqA | apply Wp.skipS | apply Wp.blockS | ((first | apply Wp.regS | apply Wp.condV | apply Wp.reg | apply Wp.condW | apply fin_ret); simp -implicitDefEqProofs (maxSteps := 2000000) (disch := first | exact tt_rfl rfl | omega | (simp only [go_sem] <;> omega) | fail) only [go_sem, show (i : Int) < ns.length by omega, ll, List.getElem?_map, eg, Option.map_some, NoteA.av.eq_1, a3, List.getElem?_cons_zero, show denT t * 1000 ≠ 0 by omega, gt_iff_lt, Int.not_lt.2 nl.1, Int.not_lt.2 nl.2] <;> try with_reducible rfl) | apply Wp.block | apply Wp.exitS | apply Wp.retS | apply Wp.exit | apply Wp.ret | apply Wp.skip)
            apply round_next
            · simp -implicitDefEqProofs (maxSteps := 2000000) (disch := first | exact tt_rfl rfl | omega | (simp only [go_sem] <;> omega) | fail) only [go_sem, norm_eq, Ok.some]; with_reducible rfl
            exact ⟨by omega, rfl, trivial⟩
          | 1, _ =>
            repeat (first | apply Wp.seqA | apply Wp.skipS | apply Wp.blockS | ((first | apply Wp.regS | apply Wp.condV | apply Wp.reg | apply Wp.condW | apply fin_ret); simp -implicitDefEqProofs (maxSteps := 2000000) (disch := first | exact tt_rfl rfl | omega | (simp only [go_sem] <;> omega) | fail) only [go_sem, show (i : Int) < ns.length by omega, ll, List.getElem?_map, eg, Option.map_some, NoteA.av.eq_1, a6, List.getElem?_cons_zero, List.getElem?_cons_succ, show denT t * 1000 ≠ 0 by omega, gt_iff_lt, Int.not_lt.2 nh.1, Int.not_lt.2 nh.2] <;> try with_reducible rfl) | apply Wp.block | apply Wp.exitS | apply Wp.retS | apply Wp.exit | apply Wp.ret | apply Wp.skip)
            apply round_next
            · simp -implicitDefEqProofs (maxSteps := 2000000) (disch := first | exact tt_rfl rfl | omega | (simp only [go_sem] <;> omega) | fail) only [go_sem, norm_eq, Ok.some]; with_reducible rfl
            exact ⟨by omega, rfl, trivial⟩
          | 2, _ =>
            repeat (first | apply Wp.seqA | apply Wp.skipS | apply Wp.blockS | ((first | apply Wp.regS | apply Wp.condV | apply Wp.reg | apply Wp.condW | apply fin_ret); simp -implicitDefEqProofs (maxSteps := 2000000) (disch := first | exact tt_rfl rfl | omega | (simp only [go_sem] <;> omega) | fail) only [go_sem] <;> try with_reducible rfl) | apply Wp.block | apply Wp.exitS | apply Wp.retS | apply Wp.exit | apply Wp.ret | apply Wp.skip)
            apply round_next
            · simp -implicitDefEqProofs (maxSteps := 2000000) (disch := first | exact tt_rfl rfl | omega | (simp only [go_sem] <;> omega) | fail) only [go_sem, norm_eq, Ok.some]; with_reducible rfl
            exact ⟨by omega, by simp, trivial⟩
        · repeat (first | apply Wp.seqA | apply Wp.skipS | apply Wp.blockS | ((first | apply Wp.regS | apply Wp.condV | apply Wp.reg | apply Wp.condW | apply fin_ret); simp -implicitDefEqProofs (maxSteps := 2000000) (disch := first | exact tt_rfl rfl | omega | (simp only [go_sem] <;> omega) | fail) only [go_sem, show ¬ (i : Int) < k by omega] <;> try with_reducible rfl) | apply Wp.block | apply Wp.exitS | apply Wp.retS | apply Wp.exit | apply Wp.ret | apply Wp.skip)
          apply round_next
          · simp -implicitDefEqProofs (maxSteps := 2000000) (disch := first | exact tt_rfl rfl | omega | (simp only [go_sem] <;> omega) | fail) only [go_sem, norm_eq, Ok.some]; with_reducible rfl
          exact ⟨by omega, by rw [Nat.add_sub_cancel, hsk]; simp, trivial⟩
      · repeat (first | apply Wp.seqA | apply Wp.skipS | apply Wp.blockS | ((first | apply Wp.regS | apply Wp.condV | apply Wp.reg | apply Wp.condW | apply fin_ret); simp -implicitDefEqProofs (maxSteps := 2000000) (disch := first | exact tt_rfl rfl | omega | (simp only [go_sem] <;> omega) | fail) only [go_sem, show ¬ (k : Int) ≤ ns.length by omega, kn] <;> try with_reducible rfl) | apply Wp.block | apply Wp.exitS | apply Wp.retS | apply Wp.exit | apply Wp.ret | apply Wp.skip)
  · repeat (first | apply Wp.seqA | apply Wp.skipS | apply Wp.blockS | ((first | apply Wp.regS | apply Wp.condV | apply Wp.reg | apply Wp.condW | apply fin_ret); simp -implicitDefEqProofs (maxSteps := 2000000) (disch := first | exact tt_rfl rfl | omega | (simp only [go_sem] <;> omega) | fail) only [go_sem, hlt, Int.ofNat_lt] <;> try with_reducible rfl) | apply Wp.block | apply Wp.exitS | apply Wp.retS | apply Wp.exit | apply Wp.ret | apply Wp.skip)
    have hnl : ns.length ≤ 15 := by omega
    have hok : ∀ n ∈ ns, n.Ok := fun n hn => (hns n hn).1
    have fine := relax_fine t hc (lo, hi) hs ns hok (by omega) u ub fun n hn => (hns n hn).2.2
    unfold TakeA.av at fine
    clear m0 m1 m2 h0 h1 h3 h4 hby
    apply Wp.loopF (ns.length + 1) (fun k => ⟨[(7, .ptr 448 0 0), (8, iv (numT t)), (9, iv (denT t)), (10, .ptr 640 0 0), (11, iv u), (12, .slice 768 0 ns.length), (19, .ptr 1216 0 0), (20, iv k)], [(448, .box [iv t.rat, iv t.step, .slice 307170 0 t.pairs.length, iv t.round]), (640, .box [iv lo, iv hi]), (768, .arr 3 (ns.map NoteA.av)), (1216, .box [iv (spanAt t (lo, hi) ns (k - 1)).1, iv (spanAt t (lo, hi) ns (k - 1)).2]), (307170, .arr 2 (t.pairs.map PairT.av))], [], 10000000⟩) (fun _ => True)
    · simp -implicitDefEqProofs (maxSteps := 2000000) (disch := first | exact tt_rfl rfl | omega | (simp only [go_sem] <;> omega) | fail) only [go_sem, norm_eq, Ok.some]
      rfl
    · trivial
    intro k hk _
    by_cases hkl : k ≤ ns.length
    · obtain ⟨k1, k2, k3⟩ := fine k hkl
      have k4 := notesOwn_ok (ns.take k) (by rw [List.length_take]; omega)
      rw [List.map_take] at k4
      have sb := spanAt_in (t := t) (s := (lo, hi)) (l := ns) (i := k)
      rw [show spanAt t (lo, hi) ns 0 = (lo, hi) from rfl] at sb
      simp only at sb
      have sp : (spanAt t (lo, hi) ns (k - 1)).1 ≤ (spanAt t (lo, hi) ns k).1 ∧ (spanAt t (lo, hi) ns k).2 ≤ (spanAt t (lo, hi) ns (k - 1)).2 := by
        match k, hkl with
        | 0, _ => exact ⟨Int.le_refl _, Int.le_refl _⟩
        | k + 1, hkl =>
          rw [spanAt_succ (by omega), Nat.add_sub_cancel]
          unfold noteStep
          simp only
          omega
      have low := (spanAt_iff (s := (lo, hi)) hc hok hs (spanAt t (lo, hi) ns k).1.toNat (by omega) hkl).1 ⟨by omega, by omega⟩
      have high := (spanAt_iff (s := (lo, hi)) hc hok hs (spanAt t (lo, hi) ns k).2.toNat (by omega) hkl).1 ⟨by omega, by omega⟩
      rw [show (((spanAt t (lo, hi) ns k).1.toNat : Nat) : Int) = (spanAt t (lo, hi) ns k).1 by omega] at low
      rw [show (((spanAt t (lo, hi) ns k).2.toNat : Nat) : Int) = (spanAt t (lo, hi) ns k).2 by omega] at high
      have ll : (ns.map NoteA.av).length = ns.length := by simp
      have hpl : ((ns.map NoteA.av).take k).all AV.plain = true := List.all_eq_true.2 fun a ha => List.all_eq_true.1 (noteA_plain ns) a (List.mem_of_mem_take ha)
      have k1' := k1
      generalize hsk : spanAt t (lo, hi) ns k = sk at k1 k2 k3 sb sp low high k1'
      generalize hsj : spanAt t (lo, hi) ns (k - 1) = sj at sp
      generalize hes : (ns.map NoteA.av).take k = es at k1 k4 hpl
      repeat (first | apply Wp.seqA | apply Wp.skipS | apply Wp.blockS | ((first | apply Wp.regS | apply Wp.condV | apply Wp.reg | apply Wp.condW | apply fin_ret); simp -implicitDefEqProofs (maxSteps := 2000000) (disch := first | exact tt_rfl rfl | omega | (simp only [go_sem] <;> omega) | fail) only [go_sem, show (k : Int) ≤ ns.length by omega, show ((k : Int) - 0).toNat = k by omega, h2, k1, k4, ll, hes, hpl, gt_iff_lt, Int.not_lt.2 k2, Int.not_lt.2 k3, Int.not_lt.2 sp.1, Int.not_lt.2 sp.2] <;> try with_reducible rfl) | apply Wp.block | apply Wp.exitS | apply Wp.retS | apply Wp.exit | apply Wp.ret | apply Wp.skip)
      clear k1 k4 k1' hes hpl
      apply Wp.loopF k (fun i => ⟨[(7, .ptr 448 0 0), (8, iv (numT t)), (9, iv (denT t)), (10, .ptr 640 0 0), (11, iv u), (12, .slice 768 0 ns.length), (19, .ptr 1216 0 0), (20, iv k), (21, .ptr 1344 0 0), (24, iv i)], [(448, .box [iv t.rat, iv t.step, .slice 307170 0 t.pairs.length, iv t.round]), (640, .box [iv lo, iv hi]), (768, .arr 3 (ns.map NoteA.av)), (1216, .box [iv sj.1, iv sj.2]), (1344, .box [iv sk.1, iv sk.2]), (307170, .arr 2 (t.pairs.map PairT.av))], [], 10000000⟩) (fun _ => True)
      · simp -implicitDefEqProofs (maxSteps := 2000000) (disch := first | exact tt_rfl rfl | omega | (simp only [go_sem] <;> omega) | fail) only [go_sem, norm_eq, Ok.some]
        rfl
      · trivial
      intro i hik _
      by_cases hil : i < k
      · have hn := hns ns[i] (List.getElem_mem (by omega))
        have mem : ns[i] ∈ ns.take k := List.mem_take_iff_getElem.2 ⟨i, by omega, rfl⟩
        have nl := low.2 _ mem
        have nh := high.2 _ mem
        unfold noteTrue at nl nh
        obtain ⟨a1, a2, a3, _⟩ := long_div t hc ns[i].p sk.1 (by omega) (by omega) (by omega) (by omega)
        obtain ⟨_, a5, a6, _⟩ := long_div t hc ns[i].p sk.2 (by omega) (by omega) (by omega) (by omega)
        have eg : ns[i]? = some ns[i] := List.getElem?_eq_getElem (by omega)
        repeat (first | apply Wp.seqA | apply Wp.skipS | apply Wp.blockS | ((first | apply Wp.regS | apply Wp.condV | apply Wp.reg | apply Wp.condW | apply fin_ret); simp -implicitDefEqProofs (maxSteps := 2000000) (disch := first | exact tt_rfl rfl | omega | (simp only [go_sem] <;> omega) | fail) only [go_sem, show (i : Int) < k by omega] <;> try with_reducible rfl) | apply Wp.block | apply Wp.exitS | apply Wp.retS | apply Wp.exit | apply Wp.ret | apply Wp.skip)
        apply Wp.loopF 2 (fun j => ⟨[(7, .ptr 448 0 0), (8, iv (numT t)), (9, iv (denT t)), (10, .ptr 640 0 0), (11, iv u), (12, .slice 768 0 ns.length), (19, .ptr 1216 0 0), (20, iv k), (21, .ptr 1344 0 0), (24, iv i), (25, iv j)], [(448, .box [iv t.rat, iv t.step, .slice 307170 0 t.pairs.length, iv t.round]), (640, .box [iv lo, iv hi]), (768, .arr 3 (ns.map NoteA.av)), (1216, .box [iv sj.1, iv sj.2]), (1344, .box [iv sk.1, iv sk.2]), (307170, .arr 2 (t.pairs.map PairT.av))], [], 10000000⟩) (fun _ => True)
        · simp -implicitDefEqProofs (maxSteps := 2000000) (disch := first | exact tt_rfl rfl | omega | (simp only [go_sem] <;> omega) | fail) only [go_sem, norm_eq, Ok.some]
          rfl
        · trivial
        intro j hj _
        match j, hj with
        | 0, _ =>
          repeat (first | apply Wp.seqA | apply Wp.skipS | apply Wp.blockS | ((first | apply Wp.regS | apply Wp.condV | apply Wp.reg | apply Wp.condW | apply fin_ret); simp -implicitDefEqProofs (maxSteps := 2000000) (disch := first | exact tt_rfl rfl | omega | (simp only [go_sem] <;> omega) | fail) only [go_sem, show (i : Int) < ns.length by omega, ll, List.getElem?_map, eg, Option.map_some, NoteA.av.eq_1, a3, List.getElem?_cons_zero, show denT t * 1000 ≠ 0 by omega, gt_iff_lt, Int.not_lt.2 nl.1, Int.not_lt.2 nl.2] <;> try with_reducible rfl) | apply Wp.block | apply Wp.exitS | apply Wp.retS | apply Wp.exit | apply Wp.ret | apply Wp.skip)
          apply round_next
          · simp -implicitDefEqProofs (maxSteps := 2000000) (disch := first | exact tt_rfl rfl | omega | (simp only [go_sem] <;> omega) | fail) only [go_sem, norm_eq, Ok.some]; with_reducible rfl
          exact ⟨by omega, rfl, trivial⟩
        | 1, _ =>
          repeat (first | apply Wp.seqA | apply Wp.skipS | apply Wp.blockS | ((first | apply Wp.regS | apply Wp.condV | apply Wp.reg | apply Wp.condW | apply fin_ret); simp -implicitDefEqProofs (maxSteps := 2000000) (disch := first | exact tt_rfl rfl | omega | (simp only [go_sem] <;> omega) | fail) only [go_sem, show (i : Int) < ns.length by omega, ll, List.getElem?_map, eg, Option.map_some, NoteA.av.eq_1, a6, List.getElem?_cons_zero, List.getElem?_cons_succ, show denT t * 1000 ≠ 0 by omega, gt_iff_lt, Int.not_lt.2 nh.1, Int.not_lt.2 nh.2] <;> try with_reducible rfl) | apply Wp.block | apply Wp.exitS | apply Wp.retS | apply Wp.exit | apply Wp.ret | apply Wp.skip)
          apply round_next
          · simp -implicitDefEqProofs (maxSteps := 2000000) (disch := first | exact tt_rfl rfl | omega | (simp only [go_sem] <;> omega) | fail) only [go_sem, norm_eq, Ok.some]; with_reducible rfl
          exact ⟨by omega, rfl, trivial⟩
        | 2, _ =>
          repeat (first | apply Wp.seqA | apply Wp.skipS | apply Wp.blockS | ((first | apply Wp.regS | apply Wp.condV | apply Wp.reg | apply Wp.condW | apply fin_ret); simp -implicitDefEqProofs (maxSteps := 2000000) (disch := first | exact tt_rfl rfl | omega | (simp only [go_sem] <;> omega) | fail) only [go_sem] <;> try with_reducible rfl) | apply Wp.block | apply Wp.exitS | apply Wp.retS | apply Wp.exit | apply Wp.ret | apply Wp.skip)
          apply round_next
          · simp -implicitDefEqProofs (maxSteps := 2000000) (disch := first | exact tt_rfl rfl | omega | (simp only [go_sem] <;> omega) | fail) only [go_sem, norm_eq, Ok.some]; with_reducible rfl
          exact ⟨by omega, by simp, trivial⟩
      · repeat (first | apply Wp.seqA | apply Wp.skipS | apply Wp.blockS | ((first | apply Wp.regS | apply Wp.condV | apply Wp.reg | apply Wp.condW | apply fin_ret); simp -implicitDefEqProofs (maxSteps := 2000000) (disch := first | exact tt_rfl rfl | omega | (simp only [go_sem] <;> omega) | fail) only [go_sem, show ¬ (i : Int) < k by omega] <;> try with_reducible rfl) | apply Wp.block | apply Wp.exitS | apply Wp.retS | apply Wp.exit | apply Wp.ret | apply Wp.skip)
        apply round_next
        · simp -implicitDefEqProofs (maxSteps := 2000000) (disch := first | exact tt_rfl rfl | omega | (simp only [go_sem] <;> omega) | fail) only [go_sem, norm_eq, Ok.some]; with_reducible rfl
        exact ⟨by omega, by rw [Nat.add_sub_cancel, hsk]; simp, trivial⟩
    · repeat (first | apply Wp.seqA | apply Wp.skipS | apply Wp.blockS | ((first | apply Wp.regS | apply Wp.condV | apply Wp.reg | apply Wp.condW | apply fin_ret); simp -implicitDefEqProofs (maxSteps := 2000000) (disch := first | exact tt_rfl rfl | omega | (simp only [go_sem] <;> omega) | fail) only [go_sem, show ¬ (k : Int) ≤ ns.length by omega, kn] <;> try with_reducible rfl) | apply Wp.block | apply Wp.exitS | apply Wp.retS | apply Wp.exit | apply Wp.ret | apply Wp.skip)

theorem beamTruth_ok (x : GearA) (v : Arr (Fin 256) 3) (by' : List ThreeB) : lim F 10 [x.av, .agg (v.1.flatMap fun n => [.int .u8 (n.1 : Int)]), .list 3 (by'.map ThreeB.av)] = some (.bool true, []) := by
  obtain ⟨l, hl⟩ := v
  match l, hl with
  | [a, b, c], _ =>
    simp only [List.flatMap_cons, List.flatMap_nil, List.append_nil, List.cons_append, List.nil_append]
    have ha := a.2
    have hb := b.2
    have hc := c.2
    have e0 := Int.tmod_eq_emod_of_nonneg (a := (a.1 : Int)) (b := 150) (by omega)
    have e1 := Int.tmod_eq_emod_of_nonneg (a := (b.1 : Int)) (b := 50) (by omega)
    exact truth_main (gearT x) (gearT_ok x) x rfl a.1 b.1 c.1 ((a.1 : Int) % 150) ((a.1 : Int) % 150 + (b.1 : Int) % 50) by' trivial (by omega) (by omega) (by omega) e0 _ e1 rfl (by omega) (by omega)
end Go.Abs
