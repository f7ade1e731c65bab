/-
  Chapter 7: the statement SeamStretch returns true.
-/
import Derived.Test.YtfokmdhmaabegaaS38
import Derived.Test.YtfokmdhmaabegaaKnown
set_option linter.all false
namespace Go.Abs
set_option maxRecDepth 10000
set_option maxHeartbeats 8000000

/-- the edges at which both lie at one place and whose bits are set -/
def meetL (m : Nat) (tA tB : List Int) (n : Nat) : List Int := ((List.range n).filter fun i => decide (ahT tA tB (i + 1) = 0) && m.testBit (i + 1)).map fun i => ((i + 1 : Nat) : Int)
theorem meet_succ (m : Nat) (tA tB : List Int) (n : Nat) : meetL m tA tB (n + 1) = meetL m tA tB n ++ (if ahT tA tB (n + 1) = 0 ∧ m.testBit (n + 1) = true then [((n + 1 : Nat) : Int)] else []) := by
  unfold meetL
  rw [List.range_succ, List.filter_append, List.map_append]
  congr 1
  by_cases h : ahT tA tB (n + 1) = 0 <;> by_cases h2 : m.testBit (n + 1) = true <;> simp [h, h2]
theorem meet_len (m : Nat) (tA tB : List Int) (n : Nat) : (meetL m tA tB n).length ≤ n := by
  unfold meetL
  rw [List.length_map]
  have := List.length_filter_le (fun i => decide (ahT tA tB (i + 1) = 0) && m.testBit (i + 1)) (List.range n)
  simpa using this
theorem meet_up (m : Nat) (tA tB : List Int) : ∀ n, (∀ t ∈ meetL m tA tB n, 1 ≤ t ∧ t ≤ n) ∧ incL (meetL m tA tB n) = true
  | 0 => by simp [meetL, incL]
  | n + 1 => by
    obtain ⟨h1, h2⟩ := meet_up m tA tB n
    rw [meet_succ]
    by_cases hb : ahT tA tB (n + 1) = 0 ∧ m.testBit (n + 1) = true
    · rw [if_pos hb]
      refine ⟨fun t ht => ?_, ?_⟩
      · rcases List.mem_append.1 ht with ht | ht
        · have := h1 t ht; omega
        · rw [List.mem_singleton.1 ht]; omega
      · rw [incL_iff] at h2 ⊢
        intro i hi
        rw [List.length_append] at hi
        simp only [List.length_singleton] at hi
        by_cases c : i + 1 < (meetL m tA tB n).length
        · rw [List.getElem_append_left c, List.getElem_append_left (by omega)]; exact h2 i c
        · have c2 : i + 1 = (meetL m tA tB n).length := by omega
          rw [List.getElem_append_left (by omega), List.getElem_append_right (by omega)]
          have := h1 _ (List.getElem_mem (show i < (meetL m tA tB n).length by omega))
          simp [c2]; omega
    · rw [if_neg hb]
      simp only [List.append_nil]
      exact ⟨fun t ht => by have := h1 t ht; omega, h2⟩
theorem meet_mem {m n j : Nat} {tA tB : List Int} (h : (j : Int) ∈ meetL m tA tB n) : ahT tA tB j = 0 := by
  unfold meetL at h
  simp only [List.mem_map, List.mem_filter, List.mem_range] at h
  obtain ⟨i, ⟨h1, h2⟩, h3⟩ := h
  have : i + 1 = j := by omega
  subst this
  simp only [Bool.and_eq_true, decide_eq_true_eq] at h2
  exact h2.1

theorem seamStretch_ok (x : Cloth) (ed : Int) (hed : 0 ≤ ed ∧ ed ≤ 255) : lim F 14 [x.av, .int .u8 ed] = some (.bool true, []) := by
  have hkn := known_ok
  have hL := lengths_ok x
  have hqs := qs_len x
  have oa := ones_a x
  have ob := ones_b x
  have lna : (x.qs.map Quad.pa).length = x.qs.length := List.length_map _
  have lnb : (x.qs.map Quad.pb).length = x.qs.length := List.length_map _
  generalize hn : x.qs.length = n at *
  generalize x.qs.map Quad.pa = a at *
  generalize x.qs.map Quad.pb = b at *
  obtain ⟨q, hT, t, rfl, la, lb, ta, tb⟩ := truth_ok x a b n lna lnb (by omega) (fun p hp => (oa.ok p hp).1) (fun p hp => (ob.ok p hp).1)
  have hrng : ∀ i, i < n → (0 ≤ atI t.a i ∧ atI t.a i ≤ 10000) ∧ (0 ≤ atI t.b i ∧ atI t.b i ≤ 10000) := by
    intro i hi
    have h1 := ta i hi (by omega)
    have h2 := tb i hi (by omega)
    have h3 := oa.ok (a[i]'(by omega)) (List.getElem_mem _)
    have h4 := ob.ok (b[i]'(by omega)) (List.getElem_mem _)
    omega
  have hah := ahead_ok t n la lb (by omega) hrng
  obtain ⟨u1, u2⟩ := meet_up x.marks t.a t.b n
  have u3 := meet_len x.marks t.a t.b n
  obtain ⟨hok, hin⟩ := truth_ahead oa ob (by omega) (ts := meetL x.marks t.a t.b n) (by rw [lna]; exact u1) u2 (by rw [lna]; exact ta) (by rw [lna]; exact tb) (fun i _ hi => meet_mem hi)
  have hrun := Run_ok a b (meetL x.marks t.a t.b n) t (by omega) (.tuple [.own 1 (((List.range (n + 1)).map (ahT t.a t.b)).map fun n => iv n), iv 0]) (fun h => absurd hok.e h) (fun _ => by
    have hwl := ones_wlen oa
    have hf := ones_fit oa ob (by omega) (tA := t.a) (tB := t.b) (by rw [lna]; exact ta) (by rw [lna]; exact tb)
    rw [hwl, lna]
    rw [lna] at hf
    exact ⟨fun h => absurd ⟨la, lb⟩ h, fun _ _ i hi h => absurd (hf i hi) h, fun _ _ _ i _ h2 h3 => absurd (meet_mem h2) h3, fun _ _ _ _ => rfl⟩)
  have hfirst : ∀ j : Nat, (j : Int) ∈ meetL x.marks t.a t.b n → at' (openL a b (meetL x.marks t.a t.b n)) j = ⟨0, 0⟩ := by
    intro j hj
    have := u1 _ hj
    rw [hok.at (by omega), out_mark (ones_wlen oa) (by rw [ones_wlen ob]; omega) (by omega) (.inr hj)]
  have hsin := fun (e : Nat) (he : e ≤ n) (v : Int) hv => show_in oa (b := b) (ts := meetL x.marks t.a t.b n) (by omega) hok.e (edge := e) (by omega) (x := v) hv
  have hsout := fun (e : Nat) (he : e ≤ n) (v : Int) hv => show_out oa (b := b) (ts := meetL x.marks t.a t.b n) (by omega) hok.e (edge := e) (by omega) (x := v) hv
  have hsok := fun (e : Nat) (v : Int) (u : TruthA) (h : TruthOk (widthsL a) (widthsL b) (meetL x.marks t.a t.b n) (widthsL a).length e v u) => truthOk_fits oa ob (by omega) h
  have hA := Ahead_ok a b (meetL x.marks t.a t.b n) (by omega)
  rw [hok.e] at hA
  have hlen := hok.len
  have hr := hok.right
  have hR := right_ok (openL a b (meetL x.marks t.a t.b n)) n (by omega) hok.right hok.first (by omega)
  have hown1 := own_ok a (by omega)
  have hown2 := own_ok b (by omega)
  have hint1 := ints_ok (meetL x.marks t.a t.b n) (by omega)
  have hint2 := ints_ok t.a (by omega)
  have hint3 := ints_ok t.b (by omega)
  have hbd : ∀ j, j ≤ n → -1000000 ≤ ahT t.a t.b j ∧ ahT t.a t.b j ≤ 1000000 := by
    intro j hj
    have h1 := hin j (by omega)
    have h2 := hr (at' (openL a b (meetL x.marks t.a t.b n)) j) (by rw [at'_get (by omega)]; exact List.getElem_mem _)
    unfold RightAt at h2
    omega
  have hsp := span_ok 0 0
  rw [lna] at hlen hin
  have hwl1 := ones_wlen oa
  rw [lna] at hwl1
  clear hok
  simp only [Cloth.av, TruthA.av] at *
  have hm := x.hm
  refine lim_by (fn := a14) (k := 2) (res := [.tmp 4]) rfl rfl rfl (by simp -implicitDefEqProofs (maxSteps := 2000000) (disch := first | exact tt_rfl rfl | omega | (simp only [go_sem] <;> omega) | fail) only [go_sem]) ?_
  simp -implicitDefEqProofs (maxSteps := 2000000) (disch := first | exact tt_rfl rfl | omega | (simp only [go_sem] <;> omega) | fail) only [go_sem]
  repeat (first | apply Wp.seqA | apply Wp.skipS | apply Wp.blockS | ((first | apply Wp.regS | apply Wp.condV | apply Wp.reg | apply Wp.condW | apply fin_ret); simp -implicitDefEqProofs (maxSteps := 2000000) (disch := first | exact tt_rfl rfl | omega | (simp only [go_sem] <;> omega) | fail) only [go_sem, hL, hT, hah, hn] <;> try with_reducible rfl) | apply Wp.block | apply Wp.exitS | apply Wp.retS | apply Wp.exit | apply Wp.ret | apply Wp.skip)
  apply Wp.loopF n (fun i => match i with
    | 0 => ⟨[(1, .int .u8 ed), (2, .ptr 128 0 0), (5, .slice 320 0 n), (6, .slice 384 0 n), (7, .ptr 448 0 0), (8, .slice 512 0 (n + 1)), (9, .slice 576 0 0), (10, iv 1)],
      [(128, .box [.list 4 (x.picks.map Quad.av), .int .u16 x.marks, .list 1 (x.truth.map fun n => u8 n.1)]), (320, .arr 3 (a.map Part.av)), (384, .arr 3 (b.map Part.av)), (448, .box [.slice 57168 0 n, .slice 57169 0 n]), (512, .arr 1 (((List.range (n + 1)).map (ahT t.a t.b)).map fun n => iv n)), (57168, .arr 1 (t.a.map fun n => iv n)), (57169, .arr 1 (t.b.map fun n => iv n)), (576, .arr 1 [])], [], 1000000⟩
    | i + 1 => ⟨[(1, .int .u8 ed), (2, .ptr 128 0 0), (5, .slice 320 0 n), (6, .slice 384 0 n), (7, .ptr 448 0 0), (8, .slice 512 0 (n + 1)), (9, .slice 576 0 (meetL x.marks t.a t.b (i + 1)).length), (10, iv (i + 1 + 1 : Nat))],
      [(128, .box [.list 4 (x.picks.map Quad.av), .int .u16 x.marks, .list 1 (x.truth.map fun n => u8 n.1)]), (320, .arr 3 (a.map Part.av)), (384, .arr 3 (b.map Part.av)), (448, .box [.slice 57168 0 n, .slice 57169 0 n]), (512, .arr 1 (((List.range (n + 1)).map (ahT t.a t.b)).map fun n => iv n)), (576, .arr 1 ((meetL x.marks t.a t.b (i + 1)).map fun n => iv n)), (57168, .arr 1 (t.a.map fun n => iv n)), (57169, .arr 1 (t.b.map fun n => iv n))], [], 1000000⟩) (fun _ => True)
  · simp -implicitDefEqProofs (maxSteps := 2000000) (disch := first | exact tt_rfl rfl | omega | (simp only [go_sem] <;> omega) | fail) only [go_sem, norm_eq, Ok.some]
    simp [lna, lnb, la, lb]
  · trivial
  intro i hi _
  have hms := meet_succ x.marks t.a t.b i
  have hml := meet_len x.marks t.a t.b i
  by_cases h : i < n
  · have x1 : ((List.range (n + 1)).map (ahT t.a t.b))[i + 1]? = some (ahT t.a t.b (i + 1)) := by simp [h]
    have f0 := convU (i + 1) (by omega)
    have f1 := shr16 x.marks (i + 1) (by omega)
    have f2 := and16 (x.marks >>> (i + 1)) (by rw [Nat.shiftRight_eq_div_pow]; exact Nat.lt_of_le_of_lt (Nat.div_le_self _ _) hm)
    rw [shr_and1] at f2
    clear hL hT hah hrng ta tb oa ob
    have y1 : (0 : Int) < n := by omega
    have y2 : ((i + 1 : Nat) : Int) < ((n + 1 : Nat) : Int) := by omega
    have y3 : (1 : Int) < ((n + 1 : Nat) : Int) := by omega
    have hm0 : meetL x.marks t.a t.b 0 = [] := rfl
    by_cases c1 : ahT t.a t.b (i + 1) = 0
    · by_cases hb : x.marks.testBit (i + 1) = true
      · rw [if_pos hb] at f2
        rw [if_pos ⟨c1, hb⟩] at hms
        rw [c1] at x1
        rcases i with _ | i
        · have f0 : IntKind.wrap .u64 1 = 1 := rfl
          have e01 : ((0 + 1 : Nat) : Int) = 1 := rfl
          rw [show (0 : Nat) + 1 = 1 from rfl] at f1 f2 x1
          repeat (first | apply Wp.seqA | apply Wp.skipS | apply Wp.blockS | ((first | apply Wp.regS | apply Wp.condV | apply Wp.reg | apply Wp.condW | apply fin_ret); simp -implicitDefEqProofs (maxSteps := 2000000) (disch := first | exact tt_rfl rfl | omega | (simp only [go_sem] <;> omega) | fail) only [go_sem, f0, f1, f2, List.getElem?_map, x1, Option.map_some, y1, y3] <;> try with_reducible rfl) | apply Wp.block | apply Wp.exitS | apply Wp.retS | apply Wp.exit | apply Wp.ret | apply Wp.skip)
          apply round_next
          · simp -implicitDefEqProofs (maxSteps := 2000000) (disch := first | exact tt_rfl rfl | omega | (simp only [go_sem] <;> omega) | fail) only [go_sem, norm_eq, Ok.some]; with_reducible rfl
          refine ⟨h, ?_, trivial⟩
          simp [hms, hm0]
        · repeat (first | apply Wp.seqA | apply Wp.skipS | apply Wp.blockS | ((first | apply Wp.regS | apply Wp.condV | apply Wp.reg | apply Wp.condW | apply fin_ret); simp -implicitDefEqProofs (maxSteps := 2000000) (disch := first | exact tt_rfl rfl | omega | (simp only [go_sem] <;> omega) | fail) only [go_sem, f0, f1, f2, List.getElem?_map, x1, Option.map_some, y1, y2] <;> try with_reducible rfl) | apply Wp.block | apply Wp.exitS | apply Wp.retS | apply Wp.exit | apply Wp.ret | apply Wp.skip)
          apply round_next
          · simp -implicitDefEqProofs (maxSteps := 2000000) (disch := first | exact tt_rfl rfl | omega | (simp only [go_sem] <;> omega) | fail) only [go_sem, norm_eq, Ok.some]; with_reducible rfl
          refine ⟨h, ?_, trivial⟩
          simp [hms]
      · rw [if_neg hb] at f2
        rw [if_neg fun h => hb h.2] at hms
        rw [c1] at x1
        rcases i with _ | i
        · have f0 : IntKind.wrap .u64 1 = 1 := rfl
          have e01 : ((0 + 1 : Nat) : Int) = 1 := rfl
          rw [show (0 : Nat) + 1 = 1 from rfl] at f1 f2 x1
          repeat (first | apply Wp.seqA | apply Wp.skipS | apply Wp.blockS | ((first | apply Wp.regS | apply Wp.condV | apply Wp.reg | apply Wp.condW | apply fin_ret); simp -implicitDefEqProofs (maxSteps := 2000000) (disch := first | exact tt_rfl rfl | omega | (simp only [go_sem] <;> omega) | fail) only [go_sem, f0, f1, f2, List.getElem?_map, x1, Option.map_some, y1, y3] <;> try with_reducible rfl) | apply Wp.block | apply Wp.exitS | apply Wp.retS | apply Wp.exit | apply Wp.ret | apply Wp.skip)
          apply round_next
          · simp -implicitDefEqProofs (maxSteps := 2000000) (disch := first | exact tt_rfl rfl | omega | (simp only [go_sem] <;> omega) | fail) only [go_sem, norm_eq, Ok.some]; with_reducible rfl
          refine ⟨h, ?_, trivial⟩
          simp [hms, hm0]
        · repeat (first | apply Wp.seqA | apply Wp.skipS | apply Wp.blockS | ((first | apply Wp.regS | apply Wp.condV | apply Wp.reg | apply Wp.condW | apply fin_ret); simp -implicitDefEqProofs (maxSteps := 2000000) (disch := first | exact tt_rfl rfl | omega | (simp only [go_sem] <;> omega) | fail) only [go_sem, f0, f1, f2, List.getElem?_map, x1, Option.map_some, y1, y2] <;> try with_reducible rfl) | apply Wp.block | apply Wp.exitS | apply Wp.retS | apply Wp.exit | apply Wp.ret | apply Wp.skip)
          apply round_next
          · simp -implicitDefEqProofs (maxSteps := 2000000) (disch := first | exact tt_rfl rfl | omega | (simp only [go_sem] <;> omega) | fail) only [go_sem, norm_eq, Ok.some]; with_reducible rfl
          refine ⟨h, ?_, trivial⟩
          simp [hms]
    · rw [if_neg fun h => c1 h.1] at hms
      clear f0 f1 f2
      rcases i with _ | i
      · rw [show (0 : Nat) + 1 = 1 from rfl] at x1 c1
        repeat (first | apply Wp.seqA | apply Wp.skipS | apply Wp.blockS | ((first | apply Wp.regS | apply Wp.condV | apply Wp.reg | apply Wp.condW | apply fin_ret); simp -implicitDefEqProofs (maxSteps := 2000000) (disch := first | exact tt_rfl rfl | omega | (simp only [go_sem] <;> omega) | fail) only [go_sem, List.getElem?_map, x1, Option.map_some, y1, y3, c1] <;> try with_reducible rfl) | apply Wp.block | apply Wp.exitS | apply Wp.retS | apply Wp.exit | apply Wp.ret | apply Wp.skip)
        apply round_next
        · simp -implicitDefEqProofs (maxSteps := 2000000) (disch := first | exact tt_rfl rfl | omega | (simp only [go_sem] <;> omega) | fail) only [go_sem, norm_eq, Ok.some]; with_reducible rfl
        refine ⟨h, ?_, trivial⟩
        simp [hms, hm0]
      · repeat (first | apply Wp.seqA | apply Wp.skipS | apply Wp.blockS | ((first | apply Wp.regS | apply Wp.condV | apply Wp.reg | apply Wp.condW | apply fin_ret); simp -implicitDefEqProofs (maxSteps := 2000000) (disch := first | exact tt_rfl rfl | omega | (simp only [go_sem] <;> omega) | fail) only [go_sem, List.getElem?_map, x1, Option.map_some, y1, y2, c1] <;> try with_reducible rfl) | apply Wp.block | apply Wp.exitS | apply Wp.retS | apply Wp.exit | apply Wp.ret | apply Wp.skip)
        apply round_next
        · simp -implicitDefEqProofs (maxSteps := 2000000) (disch := first | exact tt_rfl rfl | omega | (simp only [go_sem] <;> omega) | fail) only [go_sem, norm_eq, Ok.some]; with_reducible rfl
        refine ⟨h, ?_, trivial⟩
        simp [hms]
  · obtain rfl : i = n := by omega
    obtain ⟨e, rfl⟩ : ∃ e : Nat, ed = e := ⟨ed.toNat, by omega⟩
    rcases i with _ | i
    · omega
    clear hms hml hL hT
    dsimp only
    generalize hn1 : i + 1 = n at *
    generalize meetL x.marks t.a t.b n = ts at *
    generalize hl : openL a b ts = l at *
    have y1 : ¬ ((n + 1 : Nat) : Int) < ((n + 1 : Nat) : Int) := by omega
    have y2 : ((n : Int) + 1) = ((n + 1 : Nat) : Int) := by omega
    repeat (first | apply Wp.seqA | apply Wp.skipS | apply Wp.blockS | ((first | apply Wp.regS | apply Wp.condV | apply Wp.reg | apply Wp.condW | apply fin_ret); simp -implicitDefEqProofs (maxSteps := 2000000) (disch := first | exact tt_rfl rfl | omega | (simp only [go_sem] <;> omega) | fail) only [go_sem, y1, y2, hown1, hown2, hint1, hint2, hint3, hA, hrun, hR, hlen, lna, lnb, la, lb] <;> try with_reducible rfl) | apply Wp.block | apply Wp.exitS | apply Wp.retS | apply Wp.exit | apply Wp.ret | apply Wp.skip)
    have hlx : ∀ j, j < n + 1 → l[j]? = some (at' l j) := fun j hj => at'_eq (by omega)
    clear hA hrun hR hah ta tb oa ob hrng
    apply Wp.loopF (n + 1) (fun j => ⟨[(1, .int .u8 e), (5, .slice 320 0 n), (6, .slice 384 0 n), (8, .slice 512 0 (n + 1)), (9, .slice 576 0 ts.length), (11, .slice 704 0 (n + 1)), (13, .slice 832 0 (n + 1)), (15, iv j)],
      [(320, .arr 3 (a.map Part.av)), (384, .arr 3 (b.map Part.av)), (512, .arr 1 (((List.range (n + 1)).map (ahT t.a t.b)).map fun n => iv n)), (576, .arr 1 (ts.map fun n => iv n)), (704, .arr 2 (l.map Span.av)), (832, .arr 1 (((List.range (n + 1)).map (ahT t.a t.b)).map fun n => iv n))], [], 1000000⟩) (fun _ => True)
    · simp -implicitDefEqProofs (maxSteps := 2000000) (disch := first | exact tt_rfl rfl | omega | (simp only [go_sem] <;> omega) | fail) only [go_sem, norm_eq, Ok.some]
    · trivial
    intro j hj _
    by_cases hjn : j < n + 1
    · have x1 : ((List.range (n + 1)).map (ahT t.a t.b))[j]? = some (ahT t.a t.b j) := by simp [hjn]
      have x2 := hlx j hjn
      have x3 := hin j (by omega)
      have x4 : ¬ ahT t.a t.b j < (at' l j).lo := by omega
      have x5 : ¬ (at' l j).hi < ahT t.a t.b j := by omega
      have x6 : (j : Int) < ((n + 1 : Nat) : Int) := by omega
      repeat (first | apply Wp.seqA | apply Wp.skipS | apply Wp.blockS | ((first | apply Wp.regS | apply Wp.condV | apply Wp.reg | apply Wp.condW | apply fin_ret); simp -implicitDefEqProofs (maxSteps := 2000000) (disch := first | exact tt_rfl rfl | omega | (simp only [go_sem] <;> omega) | fail) only [go_sem, x6, hlen, List.getElem?_map, x1, x2, Option.map_some, Span.av.eq_1, x4, x5] <;> try with_reducible rfl) | apply Wp.block | apply Wp.exitS | apply Wp.retS | apply Wp.exit | apply Wp.ret | apply Wp.skip)
      apply round_next
      · simp -implicitDefEqProofs (maxSteps := 2000000) (disch := first | exact tt_rfl rfl | omega | (simp only [go_sem] <;> omega) | fail) only [go_sem, norm_eq, Ok.some]; with_reducible rfl
      exact ⟨hjn, by simp, trivial⟩
    · obtain rfl : j = n + 1 := by omega
      repeat (first | apply Wp.seqA | apply Wp.skipS | apply Wp.blockS | ((first | apply Wp.regS | apply Wp.condV | apply Wp.reg | apply Wp.condW | apply fin_ret); simp -implicitDefEqProofs (maxSteps := 2000000) (disch := first | exact tt_rfl rfl | omega | (simp only [go_sem] <;> omega) | fail) only [go_sem, Int.lt_irrefl, hlen] <;> try with_reducible rfl) | apply Wp.block | apply Wp.exitS | apply Wp.retS | apply Wp.exit | apply Wp.ret | apply Wp.skip)
      apply Wp.loopF ts.length (fun j => ⟨[(1, .int .u8 e), (5, .slice 320 0 n), (6, .slice 384 0 n), (9, .slice 576 0 ts.length), (11, .slice 704 0 (n + 1)), (16, iv j)],
        [(320, .arr 3 (a.map Part.av)), (384, .arr 3 (b.map Part.av)), (576, .arr 1 (ts.map fun n => iv n)), (704, .arr 2 (l.map Span.av))], [], 1000000⟩) (fun _ => True)
      · simp -implicitDefEqProofs (maxSteps := 2000000) (disch := first | exact tt_rfl rfl | omega | (simp only [go_sem] <;> omega) | fail) only [go_sem, norm_eq, Ok.some]
      · trivial
      intro j hj _
      by_cases hjn : j < ts.length
      · have y1 := u1 _ (List.getElem_mem hjn)
        obtain ⟨m, hm⟩ : ∃ m : Nat, ts[j] = m := ⟨ts[j].toNat, by omega⟩
        have x1 : ts[j]? = some (m : Int) := by rw [List.getElem?_eq_getElem hjn, hm]
        have x2 := hlx m (by omega)
        rw [hfirst m (by rw [← hm]; exact List.getElem_mem _)] at x2
        have x3 : (m : Int) < ((n + 1 : Nat) : Int) := by omega
        repeat (first | apply Wp.seqA | apply Wp.skipS | apply Wp.blockS | ((first | apply Wp.regS | apply Wp.condV | apply Wp.reg | apply Wp.condW | apply fin_ret); simp -implicitDefEqProofs (maxSteps := 2000000) (disch := first | exact tt_rfl rfl | omega | (simp only [go_sem] <;> omega) | fail) only [go_sem, hjn, Int.ofNat_lt, hlen, List.getElem?_map, x1, x2, x3, Option.map_some, Span.av.eq_1, hsp] <;> try with_reducible rfl) | apply Wp.block | apply Wp.exitS | apply Wp.retS | apply Wp.exit | apply Wp.ret | apply Wp.skip)
        apply round_next
        · simp -implicitDefEqProofs (maxSteps := 2000000) (disch := first | exact tt_rfl rfl | omega | (simp only [go_sem] <;> omega) | fail) only [go_sem, norm_eq, Ok.some]; with_reducible rfl
        exact ⟨hjn, by simp, trivial⟩
      · obtain rfl : j = ts.length := by omega
        have hk : e % (n + 1) ≤ n := by have := Nat.mod_lt e (show 0 < n + 1 by omega); omega
        have t1 := tmod_nat e (n + 1)
        have t2 : IntKind.wrap .i64 (e : Int) = e := wrap_id (by omega) (by omega)
        have t3 : ¬ ((n + 1 : Nat) : Int) = 0 := by omega
        repeat (first | apply Wp.seqA | apply Wp.skipS | apply Wp.blockS | ((first | apply Wp.regS | apply Wp.condV | apply Wp.reg | apply Wp.condW | apply fin_ret); simp -implicitDefEqProofs (maxSteps := 2000000) (disch := first | exact tt_rfl rfl | omega | (simp only [go_sem] <;> omega) | fail) only [go_sem, Int.lt_irrefl, hlen, t1, t2, t3] <;> try with_reducible rfl) | apply Wp.block | apply Wp.exitS | apply Wp.retS | apply Wp.exit | apply Wp.ret | apply Wp.skip)
        generalize e % (n + 1) = k at *
        have x2 := hlx k (by omega)
        have hrk := hr (at' l k) (by rw [at'_get (by omega)]; exact List.getElem_mem _)
        unfold RightAt at hrk
        have hwl := hwl1
        clear hin hbd hfirst hr
        apply Wp.loopF 2 (fun j => ⟨[(5, .slice 320 0 n), (6, .slice 384 0 n), (9, .slice 576 0 ts.length), (11, .slice 704 0 (n + 1)), (17, iv k), (18, iv j)],
          [(320, .arr 3 (a.map Part.av)), (384, .arr 3 (b.map Part.av)), (576, .arr 1 (ts.map fun n => iv n)), (704, .arr 2 (l.map Span.av))], [], 1000000⟩) (fun _ => True)
        · simp -implicitDefEqProofs (maxSteps := 2000000) (disch := first | exact tt_rfl rfl | omega | (simp only [go_sem] <;> omega) | fail) only [go_sem, norm_eq, Ok.some]
        · trivial
        intro j hj _
        have hj' : j = 0 ∨ j = 1 ∨ j = 2 := by omega
        rcases hj' with rfl | rfl | rfl
        · have hv : (at' l k).lo ≤ (at' l k).lo ∧ (at' l k).lo ≤ (at' l k).hi := by omega
          obtain ⟨u, hu, hto⟩ := hsin k hk (at' l k).lo hv
          obtain ⟨ua, ub, uf, ur⟩ := hsok k _ u hto
          have hlu := hto.la
          have hfi := fits_ok u a b n lna lnb (by omega) (by omega) (by omega) uf
          have hau := ahead_ok u n (by omega) (by omega) (by omega) (fun i hi => ur i (by omega))
          have hso := hsout k hk ((at' l k).lo - 1 + 0) (by omega)
          have hke := hto.edge
          have hmk := hto.marks
          rw [hwl] at hmk
          rw [lna] at ua ub
          clear ur uf hto hlu
          simp only [TruthA.av] at hfi hau
          have x3 : ((List.range (n + 1)).map (ahT u.a u.b))[k]? = some (at' l k).lo := by
            rw [← hke]; simp [show k < n + 1 by omega]
          have x4 : (k : Int) < ((n + 1 : Nat) : Int) := by omega
          repeat (first | apply Wp.seqA | apply Wp.skipS | apply Wp.blockS | ((first | apply Wp.regS | apply Wp.condV | apply Wp.reg | apply Wp.condW | apply fin_ret); simp -implicitDefEqProofs (maxSteps := 2000000) (disch := first | exact tt_rfl rfl | omega | (simp only [go_sem] <;> omega) | fail) only [go_sem, x2, x4, hown1, hown2, hint1, hlen, lna, lnb, List.getElem?_map, Option.map_some, Span.av.eq_1, hu, hfi, hau, x3, ua, ub] <;> try with_reducible rfl) | apply Wp.block | apply Wp.exitS | apply Wp.retS | apply Wp.exit | apply Wp.ret | apply Wp.skip)
          apply Wp.loopF ts.length (fun j => ⟨[(5, .slice 320 0 n), (6, .slice 384 0 n), (9, .slice 576 0 ts.length), (11, .slice 704 0 (n + 1)), (17, iv k), (18, iv 0), (19, iv (at' l k).lo), (20, .ptr 1280 0 0), (22, iv j)],
            [(320, .arr 3 (a.map Part.av)), (384, .arr 3 (b.map Part.av)), (576, .arr 1 (ts.map fun n => iv n)), (704, .arr 2 (l.map Span.av)), (1280, .box [.slice 70480 0 n, .slice 70481 0 n]), (70480, .arr 1 (u.a.map fun n => iv n)), (70481, .arr 1 (u.b.map fun n => iv n))], [], 1000000⟩) (fun _ => True)
          · simp -implicitDefEqProofs (maxSteps := 2000000) (disch := first | exact tt_rfl rfl | omega | (simp only [go_sem] <;> omega) | fail) only [go_sem, norm_eq, Ok.some]
          · trivial
          intro j hj _
          by_cases hjn : j < ts.length
          · have y1 := u1 _ (List.getElem_mem hjn)
            obtain ⟨m, hm⟩ : ∃ m : Nat, ts[j] = m := ⟨ts[j].toNat, by omega⟩
            have z1 : ts[j]? = some (m : Int) := by rw [List.getElem?_eq_getElem hjn, hm]
            have z2 : ((List.range (n + 1)).map (ahT u.a u.b))[m]? = some 0 := by
              rw [← hmk m (by omega) (by rw [← hm]; exact List.getElem_mem _)]; simp [show m < n + 1 by omega]
            have z3 : (m : Int) < ((n + 1 : Nat) : Int) := by omega
            clear hfi hso hu hke hmk hsin hsout hsok
            repeat (first | apply Wp.seqA | apply Wp.skipS | apply Wp.blockS | ((first | apply Wp.regS | apply Wp.condV | apply Wp.reg | apply Wp.condW | apply fin_ret); simp -implicitDefEqProofs (maxSteps := 2000000) (disch := first | exact tt_rfl rfl | omega | (simp only [go_sem] <;> omega) | fail) only [go_sem, hjn, Int.ofNat_lt, List.getElem?_map, z1, z2, z3, Option.map_some, hau, ua, ub] <;> try with_reducible rfl) | apply Wp.block | apply Wp.exitS | apply Wp.retS | apply Wp.exit | apply Wp.ret | apply Wp.skip)
            apply round_next
            · simp -implicitDefEqProofs (maxSteps := 2000000) (disch := first | exact tt_rfl rfl | omega | (simp only [go_sem] <;> omega) | fail) only [go_sem, norm_eq, Ok.some]; with_reducible rfl
            exact ⟨hjn, by simp, trivial⟩
          · obtain rfl : j = ts.length := by omega
            repeat (first | apply Wp.seqA | apply Wp.skipS | apply Wp.blockS | ((first | apply Wp.regS | apply Wp.condV | apply Wp.reg | apply Wp.condW | apply fin_ret); simp -implicitDefEqProofs (maxSteps := 2000000) (disch := first | exact tt_rfl rfl | omega | (simp only [go_sem] <;> omega) | fail) only [go_sem, Int.lt_irrefl, hown1, hown2, hint1, hso] <;> try with_reducible rfl) | apply Wp.block | apply Wp.exitS | apply Wp.retS | apply Wp.exit | apply Wp.ret | apply Wp.skip)
            apply round_next
            · simp -implicitDefEqProofs (maxSteps := 2000000) (disch := first | exact tt_rfl rfl | omega | (simp only [go_sem] <;> omega) | fail) only [go_sem, norm_eq, Ok.some]; with_reducible rfl
            exact ⟨by omega, by simp, trivial⟩
        · have hv : (at' l k).lo ≤ (at' l k).hi ∧ (at' l k).hi ≤ (at' l k).hi := by omega
          obtain ⟨u, hu, hto⟩ := hsin k hk (at' l k).hi hv
          obtain ⟨ua, ub, uf, ur⟩ := hsok k _ u hto
          have hlu := hto.la
          have hfi := fits_ok u a b n lna lnb (by omega) (by omega) (by omega) uf
          have hau := ahead_ok u n (by omega) (by omega) (by omega) (fun i hi => ur i (by omega))
          have hso := hsout k hk ((at' l k).hi - 1 + 2) (by omega)
          have hke := hto.edge
          have hmk := hto.marks
          rw [hwl] at hmk
          rw [lna] at ua ub
          clear ur uf hto hlu
          simp only [TruthA.av] at hfi hau
          have x3 : ((List.range (n + 1)).map (ahT u.a u.b))[k]? = some (at' l k).hi := by
            rw [← hke]; simp [show k < n + 1 by omega]
          have x4 : (k : Int) < ((n + 1 : Nat) : Int) := by omega
          repeat (first | apply Wp.seqA | apply Wp.skipS | apply Wp.blockS | ((first | apply Wp.regS | apply Wp.condV | apply Wp.reg | apply Wp.condW | apply fin_ret); simp -implicitDefEqProofs (maxSteps := 2000000) (disch := first | exact tt_rfl rfl | omega | (simp only [go_sem] <;> omega) | fail) only [go_sem, x2, x4, hown1, hown2, hint1, hlen, lna, lnb, List.getElem?_map, Option.map_some, Span.av.eq_1, hu, hfi, hau, x3, ua, ub] <;> try with_reducible rfl) | apply Wp.block | apply Wp.exitS | apply Wp.retS | apply Wp.exit | apply Wp.ret | apply Wp.skip)
          apply Wp.loopF ts.length (fun j => ⟨[(5, .slice 320 0 n), (6, .slice 384 0 n), (9, .slice 576 0 ts.length), (11, .slice 704 0 (n + 1)), (17, iv k), (18, iv 1), (19, iv (at' l k).hi), (20, .ptr 1280 0 0), (22, iv j)],
            [(320, .arr 3 (a.map Part.av)), (384, .arr 3 (b.map Part.av)), (576, .arr 1 (ts.map fun n => iv n)), (704, .arr 2 (l.map Span.av)), (1280, .box [.slice 70480 0 n, .slice 70481 0 n]), (70480, .arr 1 (u.a.map fun n => iv n)), (70481, .arr 1 (u.b.map fun n => iv n))], [], 1000000⟩) (fun _ => True)
          · simp -implicitDefEqProofs (maxSteps := 2000000) (disch := first | exact tt_rfl rfl | omega | (simp only [go_sem] <;> omega) | fail) only [go_sem, norm_eq, Ok.some]
          · trivial
          intro j hj _
          by_cases hjn : j < ts.length
          · have y1 := u1 _ (List.getElem_mem hjn)
            obtain ⟨m, hm⟩ : ∃ m : Nat, ts[j] = m := ⟨ts[j].toNat, by omega⟩
            have z1 : ts[j]? = some (m : Int) := by rw [List.getElem?_eq_getElem hjn, hm]
            have z2 : ((List.range (n + 1)).map (ahT u.a u.b))[m]? = some 0 := by
              rw [← hmk m (by omega) (by rw [← hm]; exact List.getElem_mem _)]; simp [show m < n + 1 by omega]
            have z3 : (m : Int) < ((n + 1 : Nat) : Int) := by omega
            clear hfi hso hu hke hmk hsin hsout hsok
            repeat (first | apply Wp.seqA | apply Wp.skipS | apply Wp.blockS | ((first | apply Wp.regS | apply Wp.condV | apply Wp.reg | apply Wp.condW | apply fin_ret); simp -implicitDefEqProofs (maxSteps := 2000000) (disch := first | exact tt_rfl rfl | omega | (simp only [go_sem] <;> omega) | fail) only [go_sem, hjn, Int.ofNat_lt, List.getElem?_map, z1, z2, z3, Option.map_some, hau, ua, ub] <;> try with_reducible rfl) | apply Wp.block | apply Wp.exitS | apply Wp.retS | apply Wp.exit | apply Wp.ret | apply Wp.skip)
            apply round_next
            · simp -implicitDefEqProofs (maxSteps := 2000000) (disch := first | exact tt_rfl rfl | omega | (simp only [go_sem] <;> omega) | fail) only [go_sem, norm_eq, Ok.some]; with_reducible rfl
            exact ⟨hjn, by simp, trivial⟩
          · obtain rfl : j = ts.length := by omega
            repeat (first | apply Wp.seqA | apply Wp.skipS | apply Wp.blockS | ((first | apply Wp.regS | apply Wp.condV | apply Wp.reg | apply Wp.condW | apply fin_ret); simp -implicitDefEqProofs (maxSteps := 2000000) (disch := first | exact tt_rfl rfl | omega | (simp only [go_sem] <;> omega) | fail) only [go_sem, Int.lt_irrefl, hown1, hown2, hint1, hso] <;> try with_reducible rfl) | apply Wp.block | apply Wp.exitS | apply Wp.retS | apply Wp.exit | apply Wp.ret | apply Wp.skip)
            apply round_next
            · simp -implicitDefEqProofs (maxSteps := 2000000) (disch := first | exact tt_rfl rfl | omega | (simp only [go_sem] <;> omega) | fail) only [go_sem, norm_eq, Ok.some]; with_reducible rfl
            exact ⟨by omega, by simp, trivial⟩
        · repeat (first | apply Wp.seqA | apply Wp.skipS | apply Wp.blockS | ((first | apply Wp.regS | apply Wp.condV | apply Wp.reg | apply Wp.condW | apply fin_ret); simp -implicitDefEqProofs (maxSteps := 2000000) (disch := first | exact tt_rfl rfl | omega | (simp only [go_sem] <;> omega) | fail) only [go_sem, hkn] <;> try with_reducible rfl) | apply Wp.block | apply Wp.exitS | apply Wp.retS | apply Wp.exit | apply Wp.ret | apply Wp.skip)
end Go.Abs
