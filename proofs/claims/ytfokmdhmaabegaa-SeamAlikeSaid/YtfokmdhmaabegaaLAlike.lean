/-
  Chapter 7: the statement SeamAlike returns true.
-/
import Derived.Test.YtfokmdhmaabegaaS34
import Derived.Test.YtfokmdhmaabegaaKnown
set_option linter.all false
namespace Go.Abs
set_option maxRecDepth 10000
set_option maxHeartbeats 1000000

@[go_sem] theorem take_allA {α : Type} {k : Nat} {l : List α} (h : l.length ≤ k) : l.take k = l := List.take_of_length_le h
@[go_sem] theorem bne_tf : (true != false) = true := rfl
@[go_sem] theorem bne_tt : (true != true) = false := rfl

theorem tight_set : ∀ (l : List Part) (i : Nat) (h : i < l.length), ((l.take i).map tightP ++ l.drop i).set i (tightP l[i]) = (l.take (i + 1)).map tightP ++ l.drop (i + 1)
  | p :: l, 0, _ => by simp
  | p :: l, i + 1, h => by
    have := tight_set l i (by simpa using h)
    simpa using this
theorem tight_get : ∀ (l : List Part) (i : Nat) (h : i < l.length), ((l.take i).map tightP ++ l.drop i)[i]? = some l[i]
  | p :: l, 0, _ => by simp
  | p :: l, i + 1, h => by
    have := tight_get l i (by simpa using h)
    simpa using this

theorem seamAlike_ok (x : Cloth) : lim F 11 [x.av] = some (.bool true, []) := by
  have hkn := known_ok
  have hL := lengths_ok x
  have hq := qs_len x
  have hM := marks_ok x x.qs.length (by omega)
  have ha := ones_a x
  have hlen : (x.qs.map Quad.pa).length = x.qs.length := List.length_map _
  obtain ⟨t1, t2⟩ := edges_ts (m := x.marks) (n := x.qs.length)
  have tl := edges_len x.marks x.qs.length
  obtain ⟨hok, hsym⟩ := same_ahead ha (ts := edgesL x.marks x.qs.length) (by rw [hlen]; exact t1) t2
  obtain ⟨hokt, hzt⟩ := tight_zero ha (ts := edgesL x.marks x.qs.length) (by rw [hlen]; exact t1) t2
  have hlt := hokt.len
  have hl := hok.len
  rw [List.length_map] at hlt
  generalize hnn : x.qs.length = n at *
  generalize edgesL x.marks n = ts at *
  rw [hlen] at hsym hzt hl hlt
  have hA := Ahead_ok (x.qs.map Quad.pa) (x.qs.map Quad.pa) ts (by omega)
  have hAt := Ahead_ok ((x.qs.map Quad.pa).map tightP) ((x.qs.map Quad.pa).map tightP) ts (by omega)
  rw [hok.e] at hA
  rw [hokt.e] at hAt
  have hP := Places_ok (x.qs.map Quad.pa)
  have hpl : placesL (x.qs.map Quad.pa) = sumsL (widthsL (x.qs.map Quad.pa)) := by simp [placesL, ha.check]
  rw [ha.check, hpl] at hP
  have hw := ha.widths
  have hown := own_ok (x.qs.map Quad.pa) (by omega)
  have hint := ints_ok ts (by omega)
  have hR := right_ok (openL (x.qs.map Quad.pa) (x.qs.map Quad.pa) ts) n hl hok.right hok.first (by omega)
  have hs0 := span_ok 0 0
  have hpn : (sumsL (widthsL (x.qs.map Quad.pa))).length = n + 1 := by simp [sumsL, hw, hnn]
  have hp0 : (sumsL (widthsL (x.qs.map Quad.pa)))[0]? = some ⟨0, 0⟩ := by simp [sumsL, pre]
  have hpi : ∀ i, i ≤ n → (sumsL (widthsL (x.qs.map Quad.pa)))[i]? = some (pre (widthsL (x.qs.map Quad.pa)) i) := fun i hi => by
    simp [sumsL, hw, hnn, show i < n + 1 by omega]
  have hsm := (widths_small ha.check)
  have hps : ∀ i (h : i < (x.qs.map Quad.pa).length), pre (widthsL (x.qs.map Quad.pa)) (i + 1) = ⟨(pre (widthsL (x.qs.map Quad.pa)) i).lo + ((x.qs.map Quad.pa)[i]).lo, (pre (widthsL (x.qs.map Quad.pa)) i).hi + ((x.qs.map Quad.pa)[i]).hi⟩ := by
    intro i h
    rw [pre_succ (by rw [hw]; simpa using h)]
    have e : (widthsL (x.qs.map Quad.pa))[i]'(by rw [hw]; simpa using h) = ((x.qs.map Quad.pa)[i]).w := by simp only [hw, List.getElem_map]
    rw [e]; rfl
  have hpb : ∀ i, i ≤ n → _ := fun i hi => hsm.pre i (by rw [hw]; simp; omega)
  have hab := ha.ok
  have hmb := open_mid (a := x.qs.map Quad.pa) (b := x.qs.map Quad.pa) (ts := ts)
  clear hok hokt hw hsm hpl t1 t2 ha
  generalize x.qs.map Quad.pa = a at *
  generalize openL a a ts = l at *
  generalize openL (a.map tightP) (a.map tightP) ts = lt at *
  generalize sumsL (widthsL a) = P at *
  generalize pre (widthsL a) = pr at *
  simp only [Cloth.av] at *
  refine lim_by (fn := a11) (k := 1) (res := [.tmp 2]) rfl rfl rfl (by simp -implicitDefEqProofs (maxSteps := 2000000) (disch := first | exact tt_rfl rfl | omega | (simp only [go_sem] <;> omega) | fail) only [go_sem]) ?_
  simp -implicitDefEqProofs (maxSteps := 2000000) (disch := first | exact tt_rfl rfl | omega | (simp only [go_sem] <;> omega) | fail) only [go_sem]
  repeat (first | apply Wp.seqA | apply Wp.skipS | apply Wp.blockS | ((first | apply Wp.regS | apply Wp.condV | apply Wp.reg | apply Wp.condW | apply fin_ret); simp -implicitDefEqProofs (maxSteps := 2000000) (disch := first | exact tt_rfl rfl | omega | (simp only [go_sem] <;> omega) | fail) only [go_sem, hL, hM, hA, hP, hown, hint, hR, hs0, hpn, hlen, hl, List.getElem?_map, hp0, Option.map_some, Span.av.eq_1, hnn, show ((n : Int) + 1) = ((n + 1 : Nat) : Int) by omega] <;> try with_reducible rfl) | apply Wp.block | apply Wp.exitS | apply Wp.retS | apply Wp.exit | apply Wp.ret | apply Wp.skip)
  apply Wp.loopF n (fun i => ⟨[(3, .slice 192 0 n), (5, .slice 320 0 ts.length), (6, .slice 384 0 (n + 1)), (8, .slice 512 0 (n + 1)), (10, .slice 640 0 n), (11, iv i)],
    [(192, .arr 3 (a.map Part.av)), (320, .arr 1 (ts.map fun n => iv n)), (384, .arr 2 (l.map Span.av)), (512, .arr 2 (P.map Span.av)), (640, .arr 3 (((a.take i).map tightP ++ a.drop i).map Part.av))], [], 1000000⟩) (fun _ => True)
  · simp -implicitDefEqProofs (maxSteps := 2000000) (disch := first | exact tt_rfl rfl | omega | (simp only [go_sem] <;> omega) | fail) only [go_sem, norm_eq, Ok.some]
  · trivial
  intro i hi _
  by_cases h : i < n
  · have x1 := hpi i (by omega)
    have x2 := hpi (i + 1) (by omega)
    have hps := hps i (by omega)
    rw [hps] at x2
    have x3 : a[i]? = some a[i] := List.getElem?_eq_getElem (by omega)
    have x4 : l[i]? = some (at' l i) := at'_eq (by omega)
    have x5 : ((a.take i).map tightP ++ a.drop i)[i]? = some a[i] := tight_get a i (by omega)
    have hsy := hsym i (by omega)
    have hpb := hpb i (by omega)
    obtain ⟨k1, k2, k3, k4⟩ := hab a[i] (List.getElem_mem (by omega))
    have hmb := hmb (at' l i) (by rw [at'_get (by omega)]; exact List.getElem_mem _)
    have hsp := span_ok ((pr i).lo + a[i].lo) ((pr i).hi + a[i].hi)
    have hset : (((a.take i).map tightP ++ a.drop i).map Part.av).set i (.agg [iv a[i].picks, iv a[i].lo, iv a[i].lo]) = ((a.take (i + 1)).map tightP ++ a.drop (i + 1)).map Part.av := by
      have e1 : (AV.agg [iv a[i].picks, iv a[i].lo, iv a[i].lo]) = Part.av (tightP a[i]) := rfl
      rw [e1, ← List.map_set]
      rw [tight_set a i (by omega)]
    obtain ⟨⟨_, k5, k6⟩, _⟩ := id (And.intro k1 trivial)
    obtain ⟨m1, m2, m3, m4⟩ := hmb
    clear hL hM hA hP hR hAt hzt hpi hsym hab
    repeat (first | apply Wp.seqA | apply Wp.skipS | apply Wp.blockS | ((first | apply Wp.regS | apply Wp.condV | apply Wp.reg | apply Wp.condW | apply fin_ret); simp -implicitDefEqProofs (maxSteps := 2000000) (disch := first | exact tt_rfl rfl | omega | (simp only [go_sem] <;> omega) | fail) only [go_sem, h, Int.ofNat_lt, List.getElem?_map, x1, x2, x3, x4, x5, Option.map_some, Span.av.eq_1, Part.av.eq_1, hsp, hsy, hset, show i < n + 1 by omega, show (i : Int) + 1 < ((n + 1 : Nat) : Int) by omega, show (i : Int) < ((n + 1 : Nat) : Int) by omega, show ((i : Int) + 1).toNat = i + 1 by omega] <;> try with_reducible rfl) | apply Wp.block | apply Wp.exitS | apply Wp.retS | apply Wp.exit | apply Wp.ret | apply Wp.skip)
    apply round_next
    · simp -implicitDefEqProofs (maxSteps := 2000000) (disch := first | exact tt_rfl rfl | omega | (simp only [go_sem] <;> omega) | fail) only [go_sem, norm_eq, Ok.some]; with_reducible rfl
    refine ⟨h, by simp, trivial⟩
  · obtain rfl : i = n := by omega
    have e2 : (a.take i).map tightP ++ a.drop i = a.map tightP := by
      rw [List.take_of_length_le (by omega), List.drop_of_length_le (by omega), List.append_nil]
    have hown2 := own_ok (a.map tightP) (by simp; omega)
    rw [e2]
    repeat (first | apply Wp.seqA | apply Wp.skipS | apply Wp.blockS | ((first | apply Wp.regS | apply Wp.condV | apply Wp.reg | apply Wp.condW | apply fin_ret); simp -implicitDefEqProofs (maxSteps := 2000000) (disch := first | exact tt_rfl rfl | omega | (simp only [go_sem] <;> omega) | fail) only [go_sem, Int.lt_irrefl, hown2, hAt, hlt, hlen, List.length_map, show ((i : Int) + 1) = ((i + 1 : Nat) : Int) by omega] <;> try with_reducible rfl) | apply Wp.block | apply Wp.exitS | apply Wp.retS | apply Wp.exit | apply Wp.ret | apply Wp.skip)
    apply Wp.loopF (i + 1) (fun k => ⟨[(12, .slice 768 0 (i + 1)), (14, iv k)], [(768, .arr 2 (lt.map Span.av))], [], 1000000⟩) (fun _ => True)
    · simp -implicitDefEqProofs (maxSteps := 2000000) (disch := first | exact tt_rfl rfl | omega | (simp only [go_sem] <;> omega) | fail) only [go_sem, norm_eq, Ok.some]
      try simp [hlt]
    · trivial
    intro k hk _
    by_cases hki : k < i + 1
    · have x1 : lt[k]? = some ⟨0, 0⟩ := by rw [← hzt k (by omega)]; exact at'_eq (by omega)
      repeat (first | apply Wp.seqA | apply Wp.skipS | apply Wp.blockS | ((first | apply Wp.regS | apply Wp.condV | apply Wp.reg | apply Wp.condW | apply fin_ret); simp -implicitDefEqProofs (maxSteps := 2000000) (disch := first | exact tt_rfl rfl | omega | (simp only [go_sem] <;> omega) | fail) only [go_sem, hki, Int.ofNat_lt, List.getElem?_map, x1, Option.map_some, Span.av.eq_1, hs0] <;> try with_reducible rfl) | apply Wp.block | apply Wp.exitS | apply Wp.retS | apply Wp.exit | apply Wp.ret | apply Wp.skip)
      apply round_next
      · simp -implicitDefEqProofs (maxSteps := 2000000) (disch := first | exact tt_rfl rfl | omega | (simp only [go_sem] <;> omega) | fail) only [go_sem, norm_eq, Ok.some]; with_reducible rfl
      exact ⟨hki, by simp, trivial⟩
    · obtain rfl : k = i + 1 := by omega
      repeat (first | apply Wp.seqA | apply Wp.skipS | apply Wp.blockS | ((first | apply Wp.regS | apply Wp.condV | apply Wp.reg | apply Wp.condW | apply fin_ret); simp -implicitDefEqProofs (maxSteps := 2000000) (disch := first | exact tt_rfl rfl | omega | (simp only [go_sem] <;> omega) | fail) only [go_sem, Int.lt_irrefl, hkn] <;> try with_reducible rfl) | apply Wp.block | apply Wp.exitS | apply Wp.retS | apply Wp.exit | apply Wp.ret | apply Wp.skip)
end Go.Abs
