/-
  Chapter 6: the reference's figures and relaxing. No condition beyond those that each theorem names.
-/
import Derived.Test.YtbmihapnaclidaaF1
set_option linter.all false
namespace Go.Abs
set_option maxRecDepth 10000
set_option maxHeartbeats 2000000

theorem refLong_ok (t : TakeA) (p r : Int) (hc : checkT t = 0) (h0 : 0 ≤ p) (h1 : p ≤ 100000) (h2 : 0 ≤ r) (h3 : r ≤ 1000) : lim F 34 [t.av, iv p, iv r] = some (iv (longT t p r), []) := by
  have ht := refTake_ok t hc
  have h := tkR hc h0 h1
  have ha := h.a
  have hb := h.b h2 h3
  have hl := h.l h2 h3
  have e : Int.tdiv (p * nT t * (1000 - r)) (dT t * 1000) = longT t p r := Int.tdiv_eq_ediv_of_nonneg hb.1
  change 0 ≤ longT t p r ∧ longT t p r ≤ _ at hl
  obtain ⟨n0, n1, d0, d1, p0, p1⟩ := h
  unfold TakeA.av at ht ⊢
  unfold takeV at ht
  refine lim_by (fn := a34) (k := 3) (res := [.tmp 6]) rfl rfl rfl (by simp -implicitDefEqProofs (maxSteps := 2000000) (disch := first | exact tt_rfl rfl | omega | (simp only [go_sem] <;> omega) | fail) only [go_sem]) ?_
  simp -implicitDefEqProofs (maxSteps := 2000000) (disch := first | exact tt_rfl rfl | omega | (simp only [go_sem] <;> omega) | fail) only [go_sem]
  repeat (first | apply Wp.seqA | apply Wp.skipS | apply Wp.blockS | ((first | apply Wp.regS | apply Wp.condV | apply Wp.reg | apply Wp.condW | apply fin_ret); simp -implicitDefEqProofs (maxSteps := 2000000) (disch := first | exact tt_rfl rfl | omega | (simp only [go_sem] <;> omega) | fail) only [go_sem, ht, e, show dT t * 1000 ≠ 0 by omega] <;> try with_reducible rfl) | apply Wp.block | apply Wp.exitS | apply Wp.retS | apply Wp.exit | apply Wp.ret | apply Wp.skip)

theorem refTrue_ok (t : TakeA) (x : NoteA) (r : Int) (hc : checkT t = 0) (hx : x.Ok) (h2 : 0 ≤ r) (h3 : r ≤ 1000) : lim F 82 [t.av, .agg [iv x.p, iv x.lo, iv x.hi], iv r] = some (.bool (decide (noteTrue t x r)), []) := by
  have hl := refLong_ok t x.p r hc (by omega) (by omega) h2 h3
  have hi := refIn_ok (longT t x.p r) x.lo x.hi
  unfold TakeA.av at hl ⊢
  refine lim_by (fn := a82) (k := 3) (res := [.tmp 6]) rfl rfl rfl (by simp -implicitDefEqProofs (maxSteps := 2000000) (disch := first | exact tt_rfl rfl | omega | (simp only [go_sem] <;> omega) | fail) only [go_sem]) ?_
  simp -implicitDefEqProofs (maxSteps := 2000000) (disch := first | exact tt_rfl rfl | omega | (simp only [go_sem] <;> omega) | fail) only [go_sem]
  repeat (first | apply Wp.seqA | apply Wp.skipS | apply Wp.blockS | ((first | apply Wp.regS | apply Wp.condV | apply Wp.reg | apply Wp.condW | apply fin_ret); simp -implicitDefEqProofs (maxSteps := 2000000) (disch := first | exact tt_rfl rfl | omega | (simp only [go_sem] <;> omega) | fail) only [go_sem, hl, hi] <;> try with_reducible rfl) | apply Wp.block | apply Wp.exitS | apply Wp.retS | apply Wp.exit | apply Wp.ret | apply Wp.skip)

theorem refNote_ok (x : NoteA) : lim F 32 [.agg [iv x.p, iv x.lo, iv x.hi]] = some (.bool (decide x.Ok), []) := by
  have h1 := refIn_ok x.p 1 100000
  have h2 := refSpan_ok x.lo x.hi 0 10000000000
  by_cases c1 : 1 ≤ x.p ∧ x.p ≤ 100000
  · by_cases c2 : SpanOk x.lo x.hi 0 10000000000
    · rw [decide_eq_true c2] at h2
      refine lim_by (fn := a32) (k := 1) (res := [.tmp 2]) rfl rfl rfl (by simp -implicitDefEqProofs (maxSteps := 2000000) (disch := first | exact tt_rfl rfl | omega | (simp only [go_sem] <;> omega) | fail) only [go_sem]) ?_
      simp -implicitDefEqProofs (maxSteps := 2000000) (disch := first | exact tt_rfl rfl | omega | (simp only [go_sem] <;> omega) | fail) only [go_sem]
      repeat (first | apply Wp.seqA | apply Wp.skipS | apply Wp.blockS | ((first | apply Wp.regS | apply Wp.condV | apply Wp.reg | apply Wp.condW | apply fin_ret); simp -implicitDefEqProofs (maxSteps := 2000000) (disch := first | exact tt_rfl rfl | omega | (simp only [go_sem] <;> omega) | fail) only [go_sem, h1, h2, c1] <;> try with_reducible rfl) | apply Wp.block | apply Wp.exitS | apply Wp.retS | apply Wp.exit | apply Wp.ret | apply Wp.skip)
      rw [decide_eq_true ⟨c1, c2⟩]
    · rw [decide_eq_false c2] at h2
      refine lim_by (fn := a32) (k := 1) (res := [.tmp 2]) rfl rfl rfl (by simp -implicitDefEqProofs (maxSteps := 2000000) (disch := first | exact tt_rfl rfl | omega | (simp only [go_sem] <;> omega) | fail) only [go_sem]) ?_
      simp -implicitDefEqProofs (maxSteps := 2000000) (disch := first | exact tt_rfl rfl | omega | (simp only [go_sem] <;> omega) | fail) only [go_sem]
      repeat (first | apply Wp.seqA | apply Wp.skipS | apply Wp.blockS | ((first | apply Wp.regS | apply Wp.condV | apply Wp.reg | apply Wp.condW | apply fin_ret); simp -implicitDefEqProofs (maxSteps := 2000000) (disch := first | exact tt_rfl rfl | omega | (simp only [go_sem] <;> omega) | fail) only [go_sem, h1, h2, c1] <;> try with_reducible rfl) | apply Wp.block | apply Wp.exitS | apply Wp.retS | apply Wp.exit | apply Wp.ret | apply Wp.skip)
      rw [decide_eq_false fun h => c2 h.2]
  · refine lim_by (fn := a32) (k := 1) (res := [.tmp 2]) rfl rfl rfl (by simp -implicitDefEqProofs (maxSteps := 2000000) (disch := first | exact tt_rfl rfl | omega | (simp only [go_sem] <;> omega) | fail) only [go_sem]) ?_
    simp -implicitDefEqProofs (maxSteps := 2000000) (disch := first | exact tt_rfl rfl | omega | (simp only [go_sem] <;> omega) | fail) only [go_sem]
    repeat (first | apply Wp.seqA | apply Wp.skipS | apply Wp.blockS | ((first | apply Wp.regS | apply Wp.condV | apply Wp.reg | apply Wp.condW | apply fin_ret); simp -implicitDefEqProofs (maxSteps := 2000000) (disch := first | exact tt_rfl rfl | omega | (simp only [go_sem] <;> omega) | fail) only [go_sem, h1, c1] <;> try with_reducible rfl) | apply Wp.block | apply Wp.exitS | apply Wp.retS | apply Wp.exit | apply Wp.ret | apply Wp.skip)
    rw [decide_eq_false fun h => c1 h.1]

theorem notes_ok (l : List NoteA) (hl : l.length < 1000000) : lim F 27 [.list 3 (l.map NoteA.av)] = some (.own 3 (l.map NoteA.av), []) := by
  refine lim_by (fn := a27) (k := 1) (res := [.tmp 2]) rfl rfl rfl (by simp -implicitDefEqProofs (maxSteps := 2000000) (disch := first | exact tt_rfl rfl | omega | (simp only [go_sem] <;> omega) | fail) only [go_sem]) ?_
  simp -implicitDefEqProofs (maxSteps := 2000000) (disch := first | exact tt_rfl rfl | omega | (simp only [go_sem] <;> omega) | fail) only [go_sem]
  repeat (first | apply Wp.seqA | apply Wp.skipS | apply Wp.blockS | ((first | apply Wp.regS | apply Wp.condV | apply Wp.reg | apply Wp.condW | apply fin_ret); simp -implicitDefEqProofs (maxSteps := 2000000) (disch := first | exact tt_rfl rfl | omega | (simp only [go_sem] <;> omega) | fail) only [go_sem] <;> try with_reducible rfl) | apply Wp.block | apply Wp.exitS | apply Wp.retS | apply Wp.exit | apply Wp.ret | apply Wp.skip)

theorem refNotes_ok (l : List NoteA) (hl : l.length < 1000000) : lim F 30 [.list 3 (l.map NoteA.av), .list 3 (l.map NoteA.av)] = some (.bool true, []) := by
  refine lim_by (fn := a30) (k := 2) (res := [.tmp 4]) rfl rfl rfl (by simp -implicitDefEqProofs (maxSteps := 2000000) (disch := first | exact tt_rfl rfl | omega | (simp only [go_sem] <;> omega) | fail) only [go_sem]) ?_
  simp -implicitDefEqProofs (maxSteps := 2000000) (disch := first | exact tt_rfl rfl | omega | (simp only [go_sem] <;> omega) | fail) only [go_sem]
  repeat (first | apply Wp.seqA | apply Wp.skipS | apply Wp.blockS | ((first | apply Wp.regS | apply Wp.condV | apply Wp.reg | apply Wp.condW | apply fin_ret); simp -implicitDefEqProofs (maxSteps := 2000000) (disch := first | exact tt_rfl rfl | omega | (simp only [go_sem] <;> omega) | fail) only [go_sem] <;> try with_reducible rfl) | apply Wp.block | apply Wp.exitS | apply Wp.retS | apply Wp.exit | apply Wp.ret | apply Wp.skip)
  apply Wp.loopF l.length (fun i => ⟨[(0, .list 3 (l.map NoteA.av)), (1, .list 3 (l.map NoteA.av)), (5, iv i)], [], [], 10000000⟩) (fun _ => True)
  · simp -implicitDefEqProofs (maxSteps := 2000000) (disch := first | exact tt_rfl rfl | omega | (simp only [go_sem] <;> omega) | fail) only [go_sem, norm_eq, Ok.some]
    rfl
  · trivial
  intro i hi _
  by_cases hlt : i < l.length
  · repeat (first | apply Wp.seqA | apply Wp.skipS | apply Wp.blockS | ((first | apply Wp.regS | apply Wp.condV | apply Wp.reg | apply Wp.condW | apply fin_ret); simp -implicitDefEqProofs (maxSteps := 2000000) (disch := first | exact tt_rfl rfl | omega | (simp only [go_sem] <;> omega) | fail) only [go_sem, hlt, Int.ofNat_lt, List.getElem?_map, List.getElem?_eq_getElem hlt, Option.map_some, NoteA.av.eq_1, bne_self_eq_false, beq_self_eq_true] <;> try with_reducible rfl) | apply Wp.block | apply Wp.exitS | apply Wp.retS | apply Wp.exit | apply Wp.ret | apply Wp.skip)
    apply round_next
    · simp -implicitDefEqProofs (maxSteps := 2000000) (disch := first | exact tt_rfl rfl | omega | (simp only [go_sem] <;> omega) | fail) only [go_sem, norm_eq, Ok.some]; with_reducible rfl
    exact ⟨hlt, by simp, trivial⟩
  · repeat (first | apply Wp.seqA | apply Wp.skipS | apply Wp.blockS | ((first | apply Wp.regS | apply Wp.condV | apply Wp.reg | apply Wp.condW | apply fin_ret); simp -implicitDefEqProofs (maxSteps := 2000000) (disch := first | exact tt_rfl rfl | omega | (simp only [go_sem] <;> omega) | fail) only [go_sem, hlt, Int.ofNat_lt] <;> try with_reducible rfl) | apply Wp.block | apply Wp.exitS | apply Wp.retS | apply Wp.exit | apply Wp.ret | apply Wp.skip)

theorem refRelaxed_ok (t : TakeA) (s : Int × Int) (l : List NoteA) (hlen : l.length < 1000000) (hc : checkT t = 0) (hs : SpanOk s.1 s.2 0 200) (hl : ∀ x ∈ l, x.Ok) (so : Int × Int) (hso : so = spanAt t s l l.length) :
    lim F 35 [t.av, .agg [iv s.1, iv s.2], .list 3 (l.map NoteA.av)] = some (.tuple [.agg [iv (if so.1 ≤ so.2 then so.1 else 0), iv (if so.1 ≤ so.2 then so.2 else 0)], .bool (decide (so.1 ≤ so.2))], []) := by
  have hq : ∀ r : Int, s.1 ≤ r → r ≤ s.2 → ((∀ x ∈ l, noteTrue t x r) ↔ so.1 ≤ r ∧ r ≤ so.2) := by
    intro r h1 h2
    have h := spanAt_iff hc hl hs r.toNat (by omega) (i := l.length) (by omega)
    rw [List.take_length, ← hso, show ((r.toNat : Nat) : Int) = r by omega] at h
    rw [h]
    exact ⟨fun h' => ⟨⟨h1, h2⟩, h'⟩, fun h' => h'.2⟩
  have sb := spanAt_in (t := t) (s := s) (l := l) (i := l.length)
  rw [← hso] at sb
  have s0 : spanAt t s l 0 = s := rfl
  rw [s0] at sb
  clear hso s0
  unfold TakeA.av
  refine lim_by (fn := a35) (k := 3) (res := [.cell 6 2 true, .tmp 7]) rfl rfl rfl (by simp -implicitDefEqProofs (maxSteps := 2000000) (disch := first | exact tt_rfl rfl | omega | (simp only [go_sem] <;> omega) | fail) only [go_sem]) ?_
  simp -implicitDefEqProofs (maxSteps := 2000000) (disch := first | exact tt_rfl rfl | omega | (simp only [go_sem] <;> omega) | fail) only [go_sem]
  repeat (first | apply Wp.seqA | apply Wp.skipS | apply Wp.blockS | ((first | apply Wp.regS | apply Wp.condV | apply Wp.reg | apply Wp.condW | apply fin_ret); simp -implicitDefEqProofs (maxSteps := 2000000) (disch := first | exact tt_rfl rfl | omega | (simp only [go_sem] <;> omega) | fail) only [go_sem] <;> try with_reducible rfl) | apply Wp.block | apply Wp.exitS | apply Wp.retS | apply Wp.exit | apply Wp.ret | apply Wp.skip)
  apply Wp.loopM (fun k fr => ∃ (r lo hi : Int) (fd : Bool), fr = ⟨[(2, .list 3 (l.map NoteA.av)), (3, .ptr 192 0 0), (4, .ptr 256 0 0), (6, .ptr 384 0 0), (8, .ptr 512 0 0), (9, .bool fd), (10, iv r)],
      [(192, .box [iv t.rat, iv t.step, .list 2 (t.pairs.map PairT.av), iv t.round]), (256, .box [iv s.1, iv s.2]), (384, .box [iv 0, iv 0]), (512, .box [iv lo, iv hi])], [], 10000000⟩ ∧
    k = (s.2 + 1 - r).toNat ∧ s.1 ≤ r ∧ r ≤ s.2 + 1 ∧ fd = decide (so.1 ≤ so.2 ∧ so.1 < r) ∧ (fd = true → lo = so.1 ∧ hi = min so.2 (r - 1)) ∧ (fd = false → lo = 0 ∧ hi = 0))
  · simp -implicitDefEqProofs (maxSteps := 2000000) (disch := first | exact tt_rfl rfl | omega | (simp only [go_sem] <;> omega) | fail) only [go_sem, norm_eq, Ok.some]
    refine ⟨_, s.1, 0, 0, false, rfl, rfl, by omega, by omega, ?_, by simp, by simp⟩
    rw [eq_comm, decide_eq_false_iff_not]
    omega
  rintro k fr ⟨r, lo, hi, fd, rfl, rfl, b1, b2, b3, b4, b5⟩
  by_cases hlt : r ≤ s.2
  · repeat (first | apply Wp.seqA | apply Wp.skipS | apply Wp.blockS | ((first | apply Wp.regS | apply Wp.condV | apply Wp.reg | apply Wp.condW | apply fin_ret); simp -implicitDefEqProofs (maxSteps := 2000000) (disch := first | exact tt_rfl rfl | omega | (simp only [go_sem] <;> omega) | fail) only [go_sem, hlt] <;> try with_reducible rfl) | apply Wp.block | apply Wp.exitS | apply Wp.retS | apply Wp.exit | apply Wp.ret | apply Wp.skip)
    apply Wp.loopF l.length (fun i => ⟨[(2, .list 3 (l.map NoteA.av)), (3, .ptr 192 0 0), (4, .ptr 256 0 0), (6, .ptr 384 0 0), (8, .ptr 512 0 0), (9, .bool fd), (10, iv r), (11, .bool ((l.take i).all fun x => decide (noteTrue t x r))), (12, iv i)],
      [(192, .box [iv t.rat, iv t.step, .list 2 (t.pairs.map PairT.av), iv t.round]), (256, .box [iv s.1, iv s.2]), (384, .box [iv 0, iv 0]), (512, .box [iv lo, iv hi])], [], 10000000⟩) (fun _ => True)
    · simp -implicitDefEqProofs (maxSteps := 2000000) (disch := first | exact tt_rfl rfl | omega | (simp only [go_sem] <;> omega) | fail) only [go_sem, norm_eq, Ok.some]
      simp
    · trivial
    intro i hiN _
    by_cases hl2 : i < l.length
    · have hT := refTrue_ok t l[i] r hc (hl _ (List.getElem_mem hl2)) (by omega) (by omega)
      have et : ((l.take (i + 1)).all fun x => decide (noteTrue t x r)) = (((l.take i).all fun x => decide (noteTrue t x r)) && decide (noteTrue t l[i] r)) := by
        rw [List.take_succ_eq_append_getElem hl2, List.all_append]
        simp
      unfold TakeA.av at hT
      generalize decide (noteTrue t l[i] r) = q at hT et
      generalize hA : ((l.take i).all fun x => decide (noteTrue t x r)) = A at et
      cases A
      · repeat (first | apply Wp.seqA | apply Wp.skipS | apply Wp.blockS | ((first | apply Wp.regS | apply Wp.condV | apply Wp.reg | apply Wp.condW | apply fin_ret); simp -implicitDefEqProofs (maxSteps := 2000000) (disch := first | exact tt_rfl rfl | omega | (simp only [go_sem] <;> omega) | fail) only [go_sem, hl2, Int.ofNat_lt] <;> try with_reducible rfl) | apply Wp.block | apply Wp.exitS | apply Wp.retS | apply Wp.exit | apply Wp.ret | apply Wp.skip)
        apply round_next
        · simp -implicitDefEqProofs (maxSteps := 2000000) (disch := first | exact tt_rfl rfl | omega | (simp only [go_sem] <;> omega) | fail) only [go_sem, norm_eq, Ok.some]; with_reducible rfl
        exact ⟨hl2, by rw [et]; simp, trivial⟩
      · repeat (first | apply Wp.seqA | apply Wp.skipS | apply Wp.blockS | ((first | apply Wp.regS | apply Wp.condV | apply Wp.reg | apply Wp.condW | apply fin_ret); simp -implicitDefEqProofs (maxSteps := 2000000) (disch := first | exact tt_rfl rfl | omega | (simp only [go_sem] <;> omega) | fail) only [go_sem, hl2, Int.ofNat_lt, List.getElem?_map, List.getElem?_eq_getElem hl2, Option.map_some, NoteA.av.eq_1, hT] <;> try with_reducible rfl) | apply Wp.block | apply Wp.exitS | apply Wp.retS | apply Wp.exit | apply Wp.ret | apply Wp.skip)
        apply round_next
        · simp -implicitDefEqProofs (maxSteps := 2000000) (disch := first | exact tt_rfl rfl | omega | (simp only [go_sem] <;> omega) | fail) only [go_sem, norm_eq, Ok.some]; with_reducible rfl
        exact ⟨hl2, by rw [et]; simp, trivial⟩
    · obtain rfl : i = l.length := by omega
      have ht := hq r b1 hlt
      rw [List.take_length]
      have ea : (l.all fun x => decide (noteTrue t x r)) = decide (so.1 ≤ r ∧ r ≤ so.2) := by
        rw [Bool.eq_iff_iff, List.all_eq_true, decide_eq_true_eq, ← ht]
        exact ⟨fun h x hx => of_decide_eq_true (h x hx), fun h x hx => decide_eq_true (h x hx)⟩
      rw [ea]
      by_cases hok : so.1 ≤ r ∧ r ≤ so.2
      · rw [decide_eq_true hok]
        cases fd
        · repeat (first | apply Wp.seqA | apply Wp.skipS | apply Wp.blockS | ((first | apply Wp.regS | apply Wp.condV | apply Wp.reg | apply Wp.condW | apply fin_ret); simp -implicitDefEqProofs (maxSteps := 2000000) (disch := first | exact tt_rfl rfl | omega | (simp only [go_sem] <;> omega) | fail) only [go_sem, Int.lt_irrefl] <;> try with_reducible rfl) | apply Wp.block | apply Wp.exitS | apply Wp.retS | apply Wp.exit | apply Wp.ret | apply Wp.skip)
          apply round_next (Q := fun _ _ => False)
          · simp -implicitDefEqProofs (maxSteps := 2000000) (disch := first | exact tt_rfl rfl | omega | (simp only [go_sem] <;> omega) | fail) only [go_sem, norm_eq, Ok.some]; with_reducible rfl
          refine ⟨_, ?_, r + 1, r, r, true, rfl, rfl, ?_, ?_, ?_, ?_, ?_⟩
          · omega
          · omega
          · omega
          · rw [eq_comm, decide_eq_true_eq]; omega
          · intro _
            rw [eq_comm, decide_eq_false_iff_not] at b3
            omega
          · intro h; cases h
        · repeat (first | apply Wp.seqA | apply Wp.skipS | apply Wp.blockS | ((first | apply Wp.regS | apply Wp.condV | apply Wp.reg | apply Wp.condW | apply fin_ret); simp -implicitDefEqProofs (maxSteps := 2000000) (disch := first | exact tt_rfl rfl | omega | (simp only [go_sem] <;> omega) | fail) only [go_sem, Int.lt_irrefl] <;> try with_reducible rfl) | apply Wp.block | apply Wp.exitS | apply Wp.retS | apply Wp.exit | apply Wp.ret | apply Wp.skip)
          apply round_next (Q := fun _ _ => False)
          · simp -implicitDefEqProofs (maxSteps := 2000000) (disch := first | exact tt_rfl rfl | omega | (simp only [go_sem] <;> omega) | fail) only [go_sem, norm_eq, Ok.some]; with_reducible rfl
          obtain ⟨rfl, rfl⟩ := b4 rfl
          refine ⟨_, ?_, r + 1, so.1, r, true, rfl, rfl, ?_, ?_, ?_, ?_, ?_⟩
          · omega
          · omega
          · omega
          · rw [eq_comm, decide_eq_true_eq]; omega
          · intro _; omega
          · intro h; cases h
      · rw [decide_eq_false hok]
        repeat (first | apply Wp.seqA | apply Wp.skipS | apply Wp.blockS | ((first | apply Wp.regS | apply Wp.condV | apply Wp.reg | apply Wp.condW | apply fin_ret); simp -implicitDefEqProofs (maxSteps := 2000000) (disch := first | exact tt_rfl rfl | omega | (simp only [go_sem] <;> omega) | fail) only [go_sem, Int.lt_irrefl] <;> try with_reducible rfl) | apply Wp.block | apply Wp.exitS | apply Wp.retS | apply Wp.exit | apply Wp.ret | apply Wp.skip)
        apply round_next (Q := fun _ _ => False)
        · simp -implicitDefEqProofs (maxSteps := 2000000) (disch := first | exact tt_rfl rfl | omega | (simp only [go_sem] <;> omega) | fail) only [go_sem, norm_eq, Ok.some]; with_reducible rfl
        refine ⟨_, ?_, r + 1, lo, hi, fd, rfl, rfl, ?_, ?_, ?_, ?_, ?_⟩
        · omega
        · omega
        · omega
        · rw [b3, decide_eq_decide]; omega
        · intro h
          have := b4 h
          rw [b3, decide_eq_true_eq] at h
          omega
        · exact b5
  · obtain rfl : r = s.2 + 1 := by omega
    by_cases hne : so.1 ≤ so.2
    · rw [if_pos hne, if_pos hne, decide_eq_true hne]
      have hd : fd = true := by rw [b3, decide_eq_true_eq]; omega
      subst hd
      obtain ⟨rfl, rfl⟩ := b4 rfl
      repeat (first | apply Wp.seqA | apply Wp.skipS | apply Wp.blockS | ((first | apply Wp.regS | apply Wp.condV | apply Wp.reg | apply Wp.condW | apply fin_ret); simp -implicitDefEqProofs (maxSteps := 2000000) (disch := first | exact tt_rfl rfl | omega | (simp only [go_sem] <;> omega) | fail) only [go_sem, hlt] <;> try with_reducible rfl) | apply Wp.block | apply Wp.exitS | apply Wp.retS | apply Wp.exit | apply Wp.ret | apply Wp.skip)
      rw [show min so.2 (s.2 + 1 - 1) = so.2 by omega]
    · rw [if_neg hne, if_neg hne, decide_eq_false hne]
      have hd : fd = false := by rw [b3, decide_eq_false_iff_not]; omega
      subst hd
      obtain ⟨rfl, rfl⟩ := b5 rfl
      repeat (first | apply Wp.seqA | apply Wp.skipS | apply Wp.blockS | ((first | apply Wp.regS | apply Wp.condV | apply Wp.reg | apply Wp.condW | apply fin_ret); simp -implicitDefEqProofs (maxSteps := 2000000) (disch := first | exact tt_rfl rfl | omega | (simp only [go_sem] <;> omega) | fail) only [go_sem, hlt] <;> try with_reducible rfl) | apply Wp.block | apply Wp.exitS | apply Wp.retS | apply Wp.exit | apply Wp.ret | apply Wp.skip)
end Go.Abs
