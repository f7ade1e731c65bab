/-
  Chapter 7: the statement SeamMore returns true.
-/
import Derived.Test.YtfokmdhmaabegaaS40
import Derived.Test.YtfokmdhmaabegaaKnown
set_option linter.all false
namespace Go.Abs
set_option maxRecDepth 10000
set_option maxHeartbeats 16000000

theorem seamMore_ok (x : Cloth) (wh0 by0 : Int) (hwh0 : 0 ≤ wh0 ∧ wh0 ≤ 255) (hby0 : 0 ≤ by0 ∧ by0 ≤ 255) : lim F 10 [x.av, .int .u8 wh0, .int .u8 by0] = some (.bool true, []) := by
  obtain ⟨wh, rfl⟩ : ∃ e : Nat, wh0 = e := ⟨wh0.toNat, by omega⟩
  obtain ⟨bn, rfl⟩ : ∃ e : Nat, by0 = e := ⟨by0.toNat, by omega⟩
  have hkn := known_ok
  have hL := lengths_ok x
  have hqs := qs_len x
  have hM := marks_ok x x.qs.length (by omega)
  have oa := ones_a x
  have ob := ones_b x
  have lna : (x.qs.map Quad.pa).length = x.qs.length := List.length_map _
  have lnb : (x.qs.map Quad.pb).length = x.qs.length := List.length_map _
  have h200 : ∀ p ∈ x.qs.map Quad.pa, 200 ≤ p.lo ∧ p.hi ≤ 234 := by
    intro p hp
    obtain ⟨q, _, rfl⟩ := List.mem_map.1 hp
    have := pa_ok q
    omega
  obtain ⟨t1, t2⟩ := edges_ts (m := x.marks) (n := x.qs.length)
  have tl := edges_len x.marks x.qs.length
  generalize hn : x.qs.length = n at *
  generalize x.qs.map Quad.pa = a at *
  generalize x.qs.map Quad.pb = b at *
  generalize edgesL x.marks n = ts at *
  have hab : a.length = b.length := by omega
  have p0 := ones_pair oa ob hab
  have hwl := ones_wlen oa
  have c1 : IntKind.wrap .i64 (wh : Int) = wh := wrap_id (by omega) (by omega)
  have c2 : IntKind.wrap .i64 (bn : Int) = bn := wrap_id (by omega) (by omega)
  have c3 : IntKind.wrap .i64 ((bn : Int) + wh) = (bn : Int) + wh := wrap_id (by omega) (by omega)
  have hown1 := own_ok a (by omega)
  have hown2 := own_ok b (by omega)
  have hint1 := ints_ok ts (by omega)
  have hS1 := Marks_ok a b bn p0 (by omega) (by omega)
  have hS2 := Marks_ok a b (bn + wh) p0 (by omega) (by omega)
  obtain ⟨l1, l2, g, h, hgh, m2, m3⟩ : ∃ (l1 l2 : List Int) (g h : Int), ((g = 0 ∧ h = 0 ∧ ¬ (l1.length : Int) < l2.length) ∨ g = 7) ∧
      lim F 34 [.list 3 (a.map Part.av), .list 3 (b.map Part.av), iv bn] = some (.tuple [.own 1 (l1.map fun n => iv n), iv g], []) ∧
      lim F 34 [.list 3 (a.map Part.av), .list 3 (b.map Part.av), iv (bn + wh)] = some (.tuple [.own 1 (l2.map fun n => iv n), iv h], []) := by
    cases hm1 : marksO (moreL (widthsL a) (widthsL b)) bn (widthsL a).length with
    | some l1 =>
      obtain ⟨l2, hm2, hle⟩ := marks_more (tol' := bn + wh) (by omega) hm1
      rw [hm1] at hS1
      rw [hm2] at hS2
      exact ⟨l1, l2, 0, 0, .inl ⟨rfl, rfl, by omega⟩, hS1, hS2⟩
    | none =>
      rw [hm1] at hS1
      cases hm2 : marksO (moreL (widthsL a) (widthsL b)) (bn + wh) (widthsL a).length with
      | some l2 => rw [hm2] at hS2; exact ⟨[], l2, 7, 0, .inr rfl, hS1, hS2⟩
      | none => rw [hm2] at hS2; exact ⟨[], [], 7, 7, .inr rfl, hS1, hS2⟩
  have hA := Ahead_ok a b ts (by omega)
  have hB := Ahead_ok b a ts (by omega)
  clear hS1 hS2
  simp only [Cloth.av] at *
  rcases ones_ahead oa ob hab (ts := ts) (by rw [lna]; exact t1) t2 with hok | h9
  · obtain ⟨hokt, hturn⟩ := spans_turn oa ob hab (ts := ts) (by omega) (by rw [lna]; exact t1) t2 hok
    have hk : wh % n < a.length := by have := Nat.mod_lt wh (show 0 < n by omega); omega
    have hd9 : (0 : Int) ≤ ((bn % 9 : Nat) : Int) ∧ ((bn % 9 : Nat) : Int) ≤ 8 := by have := Nat.mod_lt bn (show 0 < 9 by omega); omega
    have hd7 : (0 : Int) ≤ ((bn % 7 : Nat) : Int) ∧ ((bn % 7 : Nat) : Int) ≤ 6 := by have := Nat.mod_lt bn (show 0 < 7 by omega); omega
    have m9 : Int.tmod (bn : Int) 9 = ((bn % 9 : Nat) : Int) := tmod_nat bn 9
    have m7 : Int.tmod (bn : Int) 7 = ((bn % 7 : Nat) : Int) := tmod_nat bn 7
    have mk : Int.tmod (wh : Int) (n : Int) = ((wh % n : Nat) : Int) := tmod_nat wh n
    have mq : Int.tmod (bn : Int) (ts.length : Int) = ((bn % ts.length : Nat) : Int) := tmod_nat bn ts.length
    generalize ((bn % 9 : Nat) : Int) = d9 at *
    generalize ((bn % 7 : Nat) : Int) = d7 at *
    generalize wh % n = k at *
    generalize bn % ts.length = q at *
    have ow := widen_ones oa h200 hk hd9 hd7
    obtain ⟨hokw, hwide⟩ := spans_in oa ob hab ow ob (List.length_set ..) (by omega) (ts := ts) (ts2 := ts) (by omega) (by rw [lna]; exact t1) t2 hok fun tA tB i1 i2 hm => ⟨widen_in hk hd9 hd7 i1, i2, hm⟩
    obtain ⟨u1, u2⟩ := less_ok q ts.length t1 t2
    have u3 := less_len ts q ts.length
    obtain ⟨hoku, hless⟩ := spans_in oa ob hab oa ob rfl (by omega) (ts := ts) (ts2 := lessAt ts q ts.length) (by omega) (by rw [lna]; exact u1) u2 hok fun tA tB i1 i2 hm => ⟨i1, i2, fun i h1 h2 => hm i h1 ((less_sub ts q ts.length).mem h2)⟩
    have hAw := Ahead_ok (a.set k (widen a[k] d9 d7)) b ts (by omega)
    have hAu := Ahead_ok a b (lessAt ts q ts.length) (by omega)
    have hR1 := right_ok (openL a b ts) n (by rw [hok.len]; omega) hok.right hok.first (by omega)
    have hR2 := right_ok (openL (a.set k (widen a[k] d9 d7)) b ts) n (by rw [hokw.len, List.length_set]; omega) hokw.right hokw.first (by omega)
    have hR3 := right_ok (openL b a ts) n (by rw [hokt.len]; omega) hokt.right hokt.first (by omega)
    have hR4 := right_ok (openL a b (lessAt ts q ts.length)) n (by rw [hoku.len]; omega) hoku.right hoku.first (by omega)
    have hl1 := hok.len
    have hl2 := hokw.len
    have hl3 := hokt.len
    have hl4 := hoku.len
    rw [List.length_set, lna] at hl2
    rw [lna] at hl1 hl4
    rw [lnb] at hl3
    have hLe := Least_ok a b ts (by omega)
    rw [hok.e] at hA hLe
    rw [hokt.e] at hB
    rw [hokw.e] at hAw
    rw [hoku.e] at hAu
    have hrt := hok.right
    have hw0 : 0 ≤ worstL (openL a b ts) := by
      have := (worst_le (tol := worstL (openL a b ts)) (l := openL a b ts))
      have e : worstL (openL a b ts) = worstL ((openL a b ts).take (n + 1)) := by rw [List.take_of_length_le (by omega)]
      rw [e, worstL_take (by omega)]
      have hf : farL (openL a b ts)[n] = max (openL a b ts)[n].hi (0 - (openL a b ts)[n].lo) := rfl
      have := hrt _ (List.getElem_mem (show n < (openL a b ts).length by omega))
      unfold RightAt at this
      omega
    have hwm : worstL (openL a b ts) ≤ 1000 := by
      refine (worst_le (by omega)).2 fun s hs => ?_
      have := hrt s hs
      unfold RightAt at this
      unfold farL; omega
    have hP1 := part_none (tol := worstL (openL a b ts)) (ts := ts) (by omega) hok.e (by omega) (Int.le_refl _)
    have hP2 : 0 < worstL (openL a b ts) → ∃ i : Nat, lim F 27 [.list 3 (a.map Part.av), .list 3 (b.map Part.av), .list 1 (ts.map fun n => iv n), iv (worstL (openL a b ts) - 1)] = some (.tuple [iv i, iv (worstL (openL a b ts)), iv 0], []) := by
      intro hp
      obtain ⟨i, i1, i2, i3, i4⟩ := part_some (tol := worstL (openL a b ts) - 1) (ts := ts) (by omega) hok.e (by omega) (by omega)
      have : farL (at' (openL a b ts) i) = worstL (openL a b ts) := by omega
      rw [this] at i4
      exact ⟨i, i4⟩
    have x0 : a[k]? = some a[k] := List.getElem?_eq_getElem hk
    have pk := h200 a[k] (List.getElem_mem _)
    have pk2 := (oa.ok a[k] (List.getElem_mem _)).1
    have hsp := span_ok (a[k].lo - d9) (a[k].hi + d7)
    have hset : (a.map Part.av).set k (.agg [iv a[k].picks, iv (a[k].lo - d9), iv (a[k].hi + d7)]) = (a.set k (widen a[k] d9 d7)).map Part.av := by
      rw [List.map_set]; rfl
    have hspn := fun u v => span_ok u v
    rw [lna] at hk hturn hwide hless
    clear hok hokt hokw hoku ow h200
    generalize hwd : a.set k (widen a[k] d9 d7) = wd at *
    have lwd : wd.length = n := by rw [← hwd, List.length_set]; exact lna
    generalize openL a b ts = l at *
    generalize openL b a ts = lt at *
    generalize openL wd b ts = lw at *
    generalize openL a b (lessAt ts q ts.length) = lu at *
    have z1 : (k : Int) < n := by omega
    have z2 : ((n : Int) + 1) = ((n + 1 : Nat) : Int) := by omega
    have z3 : ¬ (n : Int) = 0 := by omega
    refine lim_by (fn := a10) (k := 3) (res := [.tmp 6]) rfl rfl rfl (by simp -implicitDefEqProofs (maxSteps := 2000000) (disch := first | exact tt_rfl rfl | omega | (simp only [go_sem] <;> omega) | fail) only [go_sem]) ?_
    simp -implicitDefEqProofs (maxSteps := 2000000) (disch := first | exact tt_rfl rfl | omega | (simp only [go_sem] <;> omega) | fail) only [go_sem]
    repeat (first | apply Wp.seqA | apply Wp.skipS | apply Wp.blockS | ((first | apply Wp.regS | apply Wp.condV | apply Wp.reg | apply Wp.condW | apply fin_ret); simp -implicitDefEqProofs (maxSteps := 2000000) (disch := first | exact tt_rfl rfl | omega | (simp only [go_sem] <;> omega) | fail) only [go_sem, hL, hM, hkn, hown1, hown2, hint1, c1, c2, c3, lna, lnb, hn, hA, hB, m2, m3, hl1, hl3] <;> try with_reducible rfl) | apply Wp.block | apply Wp.exitS | apply Wp.retS | apply Wp.exit | apply Wp.ret | apply Wp.skip)
    · refine (?_ : _ = some (⟨[(1, .int .u8 wh), (2, .int .u8 bn), (7, .slice 1000096 0 n), (8, .slice 1000097 0 n), (9, .slice 1000384 0 ts.length), (10, .slice 1000640 0 (n + 1)), (11, iv 0), (12, .slice 1001024 0 (n + 1)), (119, .bool false)],
      [(1002240, .arr 1 (l2.map fun n => iv n)), (1002048, .arr 3 (b.map Part.av)), (1001984, .arr 3 (a.map Part.av)), (1001760, .arr 1 (l1.map fun n => iv n)), (1001664, .arr 3 (b.map Part.av)), (1001600, .arr 3 (a.map Part.av)), (1001024, .arr 2 (lt.map Span.av)), (1000992, .arr 1 (ts.map fun n => iv n)), (1000928, .arr 3 (a.map Part.av)), (1000864, .arr 3 (b.map Part.av)), (1000640, .arr 2 (l.map Span.av)), (1000608, .arr 1 (ts.map fun n => iv n)), (1000544, .arr 3 (b.map Part.av)), (1000480, .arr 3 (a.map Part.av)), (1000384, .arr 1 (ts.map fun n => iv n)), (1000096, .arr 3 (a.map Part.av)), (1000097, .arr 3 (b.map Part.av)), (1000000, .box [.list 4 (x.picks.map Quad.av), .int .u16 x.marks, .list 1 (x.truth.map fun n => u8 n.1)])], [], 1003104⟩ : Fr))
      rcases hgh with ⟨rfl, rfl, z4⟩ | rfl
      · simp -implicitDefEqProofs (maxSteps := 2000000) (disch := first | exact tt_rfl rfl | omega | (simp only [go_sem] <;> omega) | fail) only [go_sem, z4]
      · simp -implicitDefEqProofs (maxSteps := 2000000) (disch := first | exact tt_rfl rfl | omega | (simp only [go_sem] <;> omega) | fail) only [go_sem]
    repeat (first | apply Wp.seqA | apply Wp.skipS | apply Wp.blockS | ((first | apply Wp.regS | apply Wp.condV | apply Wp.reg | apply Wp.condW | apply fin_ret); simp -implicitDefEqProofs (maxSteps := 2000000) (disch := first | exact tt_rfl rfl | omega | (simp only [go_sem] <;> omega) | fail) only [go_sem, hL, hM, hkn, hown1, hown2, hint1, c1, c2, c3, lna, lnb, hn, hA, hB, mk, z3, z1, m9, m7, List.getElem?_map, x0, Option.map_some, Part.av.eq_1, hsp, hset, hAw, hR1, hR2, hR3, z2, hl1, hl2, hl3] <;> try with_reducible rfl) | apply Wp.block | apply Wp.exitS | apply Wp.retS | apply Wp.exit | apply Wp.ret | apply Wp.skip)
    clear hL hM hA hB hAw hR1 hR2 hR3 m2 m3 hsp hset x0 m9 m7 mk
    apply Wp.loopF ts.length (fun i => ⟨[(2, .int .u8 bn), (7, .slice 448 0 n), (8, .slice 512 0 n), (9, .slice 576 0 ts.length), (10, .slice 640 0 (n + 1)), (12, .slice 768 0 (n + 1)), (20, .slice 1280 0 (n + 1)), (22, .slice 1408 0 (lessAt ts q i).length), (23, iv 0), (24, iv i)],
      [(448, .arr 3 (a.map Part.av)), (512, .arr 3 (b.map Part.av)), (576, .arr 1 (ts.map fun n => iv n)), (640, .arr 2 (l.map Span.av)), (768, .arr 2 (lt.map Span.av)), (1280, .arr 2 (lw.map Span.av)), (1408, .arr 1 ((lessAt ts q i).map fun n => iv n))], [], 1000000⟩) (fun _ => True)
    · simp -implicitDefEqProofs (maxSteps := 2000000) (disch := first | exact tt_rfl rfl | omega | (simp only [go_sem] <;> omega) | fail) only [go_sem, norm_eq, Ok.some]
      simp [lessAt]
    · trivial
    intro i hi _
    by_cases hin : i < ts.length
    · have s1 := less_step (q := q) hin
      have s2 := less_len ts q i
      have x1 : ts[i]? = some ts[i] := List.getElem?_eq_getElem hin
      have x2 : ¬ (ts.length : Int) = 0 := by omega
      by_cases c : i = q
      · rw [if_pos c] at s1
        subst c
        repeat (first | apply Wp.seqA | apply Wp.skipS | apply Wp.blockS | ((first | apply Wp.regS | apply Wp.condV | apply Wp.reg | apply Wp.condW | apply fin_ret); simp -implicitDefEqProofs (maxSteps := 2000000) (disch := first | exact tt_rfl rfl | omega | (simp only [go_sem] <;> omega) | fail) only [go_sem, hin, Int.ofNat_lt, c2, mq, x2, bne_self_eq_false] <;> try with_reducible rfl) | apply Wp.block | apply Wp.exitS | apply Wp.retS | apply Wp.exit | apply Wp.ret | apply Wp.skip)
        apply round_next
        · simp -implicitDefEqProofs (maxSteps := 2000000) (disch := first | exact tt_rfl rfl | omega | (simp only [go_sem] <;> omega) | fail) only [go_sem, norm_eq, Ok.some]; with_reducible rfl
        refine ⟨hin, ?_, trivial⟩
        simp [s1]
      · rw [if_neg c] at s1
        repeat (first | apply Wp.seqA | apply Wp.skipS | apply Wp.blockS | ((first | apply Wp.regS | apply Wp.condV | apply Wp.reg | apply Wp.condW | apply fin_ret); simp -implicitDefEqProofs (maxSteps := 2000000) (disch := first | exact tt_rfl rfl | omega | (simp only [go_sem] <;> omega) | fail) only [go_sem, hin, Int.ofNat_lt, c2, mq, x2, show ¬ (i : Int) = (q : Int) by omega, List.getElem?_map, x1, Option.map_some] <;> try with_reducible rfl) | apply Wp.block | apply Wp.exitS | apply Wp.retS | apply Wp.exit | apply Wp.ret | apply Wp.skip)
        apply round_next
        · simp -implicitDefEqProofs (maxSteps := 2000000) (disch := first | exact tt_rfl rfl | omega | (simp only [go_sem] <;> omega) | fail) only [go_sem, norm_eq, Ok.some]; with_reducible rfl
        refine ⟨hin, ?_, trivial⟩
        simp [s1]
    · obtain rfl : i = ts.length := by omega
      generalize hL : lessAt ts q ts.length = L at *
      repeat (first | apply Wp.seqA | apply Wp.skipS | apply Wp.blockS | ((first | apply Wp.regS | apply Wp.condV | apply Wp.reg | apply Wp.condW | apply fin_ret); simp -implicitDefEqProofs (maxSteps := 2000000) (disch := first | exact tt_rfl rfl | omega | (simp only [go_sem] <;> omega) | fail) only [go_sem, Int.lt_irrefl, hown1, hown2, hAu, hR4, z2, lna, lnb, hl4] <;> try with_reducible rfl) | apply Wp.block | apply Wp.exitS | apply Wp.retS | apply Wp.exit | apply Wp.ret | apply Wp.skip)
      clear hAu hR4 mq
      apply Wp.loopF (n + 1) (fun j => ⟨[(7, .slice 448 0 n), (8, .slice 512 0 n), (9, .slice 576 0 ts.length), (10, .slice 640 0 (n + 1)), (12, .slice 768 0 (n + 1)), (20, .slice 1280 0 (n + 1)), (23, iv (worstL (l.take j))), (25, .slice 1600 0 (n + 1)), (27, iv j)],
        [(448, .arr 3 (a.map Part.av)), (512, .arr 3 (b.map Part.av)), (576, .arr 1 (ts.map fun n => iv n)), (640, .arr 2 (l.map Span.av)), (768, .arr 2 (lt.map Span.av)), (1280, .arr 2 (lw.map Span.av)), (1600, .arr 2 (lu.map Span.av))], [], 1000000⟩) (fun _ => True)
      · simp -implicitDefEqProofs (maxSteps := 2000000) (disch := first | exact tt_rfl rfl | omega | (simp only [go_sem] <;> omega) | fail) only [go_sem, norm_eq, Ok.some]
        try simp [worstL]
      · trivial
      intro j hj _
      by_cases hjn : j < n + 1
      · have y1 : (j : Int) < ((n + 1 : Nat) : Int) := by omega
        have v1 : l[j]? = some (at' l j) := at'_eq (by omega)
        have v2 : lw[j]? = some (at' lw j) := at'_eq (by omega)
        have v3 : lt[j]? = some (at' lt j) := at'_eq (by omega)
        have v4 : lu[j]? = some (at' lu j) := at'_eq (by omega)
        have w1 := hwide j (by omega)
        have w2 := hless j (by omega)
        have w3 := hturn j (by omega)
        have w4 := hrt (at' l j) (by rw [at'_get (by omega)]; exact List.getElem_mem _)
        unfold RightAt at w4
        have w5 : worstL (l.take (j + 1)) = max (worstL (l.take j)) (farL (at' l j)) := by rw [worstL_take (by omega), at'_get (by omega)]
        rw [w3] at v3
        have v5 := hspn (0 - (at' l j).hi) (0 - (at' l j).lo)
        have e1 : -(at' l j).hi = 0 - (at' l j).hi := by omega
        have e2 : -(at' l j).lo = 0 - (at' l j).lo := by omega
        rw [e1, e2] at v3
        clear hwide hless hturn hrt hP1 hP2 hLe hspn
        repeat (first | apply Wp.seqA | apply Wp.skipS | apply Wp.blockS | ((first | apply Wp.regS | apply Wp.condV | apply Wp.reg | apply Wp.condW | apply fin_ret); simp -implicitDefEqProofs (maxSteps := 2000000) (disch := first | exact tt_rfl rfl | omega | (simp only [go_sem] <;> omega) | fail) only [go_sem, y1, hl1, List.getElem?_map, v1, v2, v3, v4, v5, Option.map_some, Span.av.eq_1, show ¬ (at' l j).lo < (at' lw j).lo by omega, show ¬ (at' lw j).hi < (at' l j).hi by omega, show ¬ (at' l j).lo < (at' lu j).lo by omega, show ¬ (at' lu j).hi < (at' l j).hi by omega] <;> try with_reducible rfl) | apply Wp.block | apply Wp.exitS | apply Wp.retS | apply Wp.exit | apply Wp.ret | apply Wp.skip)
        apply round_next
        · simp -implicitDefEqProofs (maxSteps := 2000000) (disch := first | exact tt_rfl rfl | omega | (simp only [go_sem] <;> omega) | fail) only [go_sem, norm_eq, Ok.some]; with_reducible rfl
        refine ⟨hjn, ?_, trivial⟩
        have w6 : farL (at' l j) = max (at' l j).hi (0 - (at' l j).lo) := rfl
        generalize worstL (l.take (j + 1)) = W1 at *
        generalize worstL (l.take j) = W0 at *
        generalize farL (at' l j) = W2 at *
        simp [maxOf]
        omega
      · obtain rfl : j = n + 1 := by omega
        rw [List.take_of_length_le (by omega)]
        by_cases c : 0 < worstL l
        · obtain ⟨i, hP2⟩ := hP2 c
          repeat (first | apply Wp.seqA | apply Wp.skipS | apply Wp.blockS | ((first | apply Wp.regS | apply Wp.condV | apply Wp.reg | apply Wp.condW | apply fin_ret); simp -implicitDefEqProofs (maxSteps := 2000000) (disch := first | exact tt_rfl rfl | omega | (simp only [go_sem] <;> omega) | fail) only [go_sem, Int.lt_irrefl, hl1, hown1, hown2, hint1, hLe, hP1, hP2, c, hkn] <;> try with_reducible rfl) | apply Wp.block | apply Wp.exitS | apply Wp.retS | apply Wp.exit | apply Wp.ret | apply Wp.skip)
        · repeat (first | apply Wp.seqA | apply Wp.skipS | apply Wp.blockS | ((first | apply Wp.regS | apply Wp.condV | apply Wp.reg | apply Wp.condW | apply fin_ret); simp -implicitDefEqProofs (maxSteps := 2000000) (disch := first | exact tt_rfl rfl | omega | (simp only [go_sem] <;> omega) | fail) only [go_sem, Int.lt_irrefl, hl1, hown1, hown2, hint1, hLe, hP1, c, hkn] <;> try with_reducible rfl) | apply Wp.block | apply Wp.exitS | apply Wp.retS | apply Wp.exit | apply Wp.ret | apply Wp.skip)
  · obtain ⟨g1, g2⟩ := h9
    obtain ⟨g3, g4⟩ := open_turn oa ob hab (ts := ts) (by omega) (by rw [lna]; exact t1) t2 ⟨g1, g2⟩
    rw [g1, g2] at hA
    rw [g3, g4] at hB
    rcases hgh with ⟨rfl, rfl, z4⟩ | rfl
    · refine lim_by (fn := a10) (k := 3) (res := [.tmp 6]) rfl rfl rfl (by simp -implicitDefEqProofs (maxSteps := 2000000) (disch := first | exact tt_rfl rfl | omega | (simp only [go_sem] <;> omega) | fail) only [go_sem]) ?_
      simp -implicitDefEqProofs (maxSteps := 2000000) (disch := first | exact tt_rfl rfl | omega | (simp only [go_sem] <;> omega) | fail) only [go_sem]
      repeat (first | apply Wp.seqA | apply Wp.skipS | apply Wp.blockS | ((first | apply Wp.regS | apply Wp.condV | apply Wp.reg | apply Wp.condW | apply fin_ret); simp -implicitDefEqProofs (maxSteps := 2000000) (disch := first | exact tt_rfl rfl | omega | (simp only [go_sem] <;> omega) | fail) only [go_sem, hL, hM, hkn, hown1, hown2, hint1, c1, c2, c3, lna, lnb, hn, hA, hB, m2, m3, z4] <;> try with_reducible rfl) | apply Wp.block | apply Wp.exitS | apply Wp.retS | apply Wp.exit | apply Wp.ret | apply Wp.skip)
    · refine lim_by (fn := a10) (k := 3) (res := [.tmp 6]) rfl rfl rfl (by simp -implicitDefEqProofs (maxSteps := 2000000) (disch := first | exact tt_rfl rfl | omega | (simp only [go_sem] <;> omega) | fail) only [go_sem]) ?_
      simp -implicitDefEqProofs (maxSteps := 2000000) (disch := first | exact tt_rfl rfl | omega | (simp only [go_sem] <;> omega) | fail) only [go_sem]
      repeat (first | apply Wp.seqA | apply Wp.skipS | apply Wp.blockS | ((first | apply Wp.regS | apply Wp.condV | apply Wp.reg | apply Wp.condW | apply fin_ret); simp -implicitDefEqProofs (maxSteps := 2000000) (disch := first | exact tt_rfl rfl | omega | (simp only [go_sem] <;> omega) | fail) only [go_sem, hL, hM, hkn, hown1, hown2, hint1, c1, c2, c3, lna, lnb, hn, hA, hB, m2, m3] <;> try with_reducible rfl) | apply Wp.block | apply Wp.exitS | apply Wp.retS | apply Wp.exit | apply Wp.ret | apply Wp.skip)
end Go.Abs
