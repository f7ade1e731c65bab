/-
  Chapter 7: the contract of Show.
-/
import Derived.Test.YtfokmdhmaabegaaS13
set_option linter.all false
namespace Go.Abs
set_option maxRecDepth 10000
set_option maxHeartbeats 1000000

/-- two lengths that are valid, with what follows -/
structure PairOk (a b : List Part) (ts : List Int) (wa wb : List Span) (n : Nat) : Prop where
  ha : wa = widthsL a
  hb : wb = widthsL b
  la : wa.length = n
  lb : wb.length = n
  n200 : n ≤ 200
  wda : Wide wa
  wdb : Wide wb
  oa : ∀ i, i < n → (at' wa i).lo ≤ (at' wa i).hi
  ob : ∀ i, i < n → (at' wb i).lo ≤ (at' wb i).hi
  om : ∀ i, (at' (moreL wa wb) i).lo ≤ (at' (moreL wa wb) i).hi
  sm : Small (moreL wa wb)
  lm : (moreL wa wb).length = n
  pa : pairL a b = ⟨wa, wb, moreL wa wb, 0⟩
  ca : checkL a = 0
  cb : checkL b = 0
  ab : picksL a = picksL b

theorem wid_ord {l : List Part} (hok : ∀ p ∈ l, p.Ok) {i : Nat} (h : i < (widthsL l).length) : (at' (widthsL l) i).lo ≤ (at' (widthsL l) i).hi := by
  have := widths_mem hok _ (List.getElem_mem h)
  rw [at'_get h]; exact this.2.1
theorem pairOk {a b : List Part} {ts : List Int} (p0 : (pairL a b).e = 0) : PairOk a b ts (widthsL a) (widthsL b) (widthsL a).length := by
  obtain ⟨c1, c2, c3, c4⟩ := pairL_ok p0
  have hn := (widths_small c1).1
  have ok1 := (checkL_zero c1).2.1
  have ok2 := (checkL_zero c2).2.1
  have hlen : (widthsL b).length = (widthsL a).length := by
    have := widths_length ok1
    have := widths_length ok2
    omega
  have hml2 : (moreL (widthsL a) (widthsL b)).length = (widthsL a).length := by simp [moreL]; omega
  refine ⟨rfl, rfl, rfl, hlen, hn, wide_of ok1, wide_of ok2, fun i hi => wid_ord ok1 hi, fun i hi => wid_ord ok2 (by omega), fun i => ?_, more_small c1 c2, hml2, c4, c1, c2, c3⟩
  by_cases h : i < (widthsL a).length
  · have h1 := more_at hlen.symm h
    have e : at' (moreL (widthsL a) (widthsL b)) i = ⟨(at' (widthsL a) i).lo - (at' (widthsL b) i).hi, (at' (widthsL a) i).hi - (at' (widthsL b) i).lo⟩ := by
      unfold at' at h1 ⊢; rw [h1]; rfl
    have q1 := wid_ord ok1 h
    have q2 := wid_ord ok2 (by omega : i < (widthsL b).length)
    rw [e]; dsimp only; omega
  · simp [at', List.getElem?_eq_none (show (moreL (widthsL a) (widthsL b)).length ≤ i by omega)]

theorem take_map_all {α β : Type} {n : Nat} (f : α → β) {l : List α} (h : l.length = n) : List.take n (List.map f l) = List.map f l := List.take_of_length_le (by simp; omega)

theorem fit_low {wa wb : List Span} {n : Nat} (oa : ∀ i, i < n → (at' wa i).lo ≤ (at' wa i).hi) (ob : ∀ i, i < n → (at' wb i).lo ≤ (at' wb i).hi) {A B : List Int} {k : Nat} (hA : A.length = k) (hB : B.length = k) (hk : k < n) (hf : ∀ j, j < k → FitT wa wb A B j) :
    ∀ j, j < k + 1 → FitT wa wb (A ++ [(at' wa k).lo]) (B ++ [(at' wb k).lo]) j := by
  intro j hj
  by_cases h : j < k
  · have := hf j h
    unfold FitT at this ⊢
    rw [atI_app1 (by omega), atI_app1 (by omega)]; exact this
  · obtain rfl : j = k := by omega
    have e1 : atI (A ++ [(at' wa j).lo]) j = (at' wa j).lo := by simp [atI, ← hA]
    have e2 : atI (B ++ [(at' wb j).lo]) j = (at' wb j).lo := by simp [atI, ← hB]
    unfold FitT InW
    rw [e1, e2]
    have := oa j hk
    have := ob j hk
    omega

theorem Show_ok (a b : List Part) (ts : List Int) (edge : Nat) (ahead : Int) (hts : ts.length ≤ 1000) (o : openE a b ts = 0) (he : edge ≤ (widthsL a).length)
    (hspan : (at' (openL a b ts) edge).lo ≤ ahead ∧ ahead ≤ (at' (openL a b ts) edge).hi) :
    ∃ r, lim F 37 [.list 3 (a.map Part.av), .list 3 (b.map Part.av), .list 1 (ts.map fun n => iv n), iv edge, iv ahead] = some r ∧
      ∃ t : TruthA, r = (.tuple [.agg [.own 1 (t.a.map fun n => iv n), .own 1 (t.b.map fun n => iv n)], iv 0], []) ∧ TruthOk (widthsL a) (widthsL b) ts (widthsL a).length edge ahead t := by
  have h := open_ok a b ts hts
  simp only [PairL.av] at h
  obtain ⟨p0, hall, _, _, hgood, hol⟩ := openE_zero o
  obtain ⟨ha, hb, la, lb, n200, wda, wdb, oa, ob, om, sm, lm, pa, ca, cb, ab⟩ := pairOk (ts := ts) p0
  rw [o] at h
  simp only [pa] at h hall
  have hoe : at' (openL a b ts) edge = outR (widthsL a) (widthsL b) ts (widthsL a).length edge := by
    rw [hol]; simp [at', show edge < (widthsL a).length + 1 by omega]
  have hge : (openL a b ts)[edge]? = some (at' (openL a b ts) edge) := at'_eq (by rw [hol]; simp; omega)
  have hel : edge < (openL a b ts).length := by rw [hol]; simp; omega
  have hfill := fun p q g A B hp hq hg hA hB => fill_ok (widthsL a) (widthsL b) (moreL (widthsL a) (widthsL b)) p q g A B sm hp hq (by omega) (by omega) wda wdb om hg hA hB
  rw [lm] at hall
  have hw := within_ok 0 (widthsL a).length [(edge : Int)] (by simp)
  simp only [List.map_cons, List.map_nil, List.all_cons, List.all_nil, Bool.and_true] at hw
  rw [decide_eq_true (by omega : (0 : Int) ≤ edge ∧ (edge : Int) ≤ (widthsL a).length)] at hw
  have hhas := has_ok (at' (openL a b ts) edge).lo (at' (openL a b ts) edge).hi ahead
  rw [decide_eq_true hspan] at hhas
  rw [hoe] at hspan
  have hmk : ∀ x : Nat, (x : Int) ∈ ts → 1 ≤ x ∧ x ≤ (widthsL a).length := by
    intro x hx
    have := List.all_eq_true.1 hall _ hx
    simp only [decide_eq_true_eq] at this
    omega
  clear hol ha hb ca cb ab pa p0 hall
  generalize openL a b ts = ol at *
  generalize widthsL a = wa at *
  generalize widthsL b = wb at *
  generalize hnn : wa.length = n at *
  have he0 : edge = 0 ∨ (edge : Int) ∈ ts → ahead = 0 := by
    intro c
    have e1 := fo_zero hnn lb (wa := wa) (wb := wb) (ts := ts) edge c
    have e2 := ba_mark (wa := wa) (wb := wb) (ts0 := ts) (by omega) (e := edge) (by omega) c
    rw [hnn] at e2
    unfold outR at hspan
    rw [e1, e2] at hspan
    dsimp only at hspan; omega
  have hstep := fun {i fr : Nat} {was : Int} {A B : List Int} (h : ShowInv wa wb ts edge ahead i fr was A B) (hi : i ≤ n) {is : Int} his => show_step hnn lb oa ob om hgood hspan he0 h hi (is := is) his
  have hgap := fun {i fr : Nat} {was : Int} {A B : List Int} (h : ShowInv wa wb ts edge ahead i fr was A B) (hi : i ≤ n) {is : Int} his => show_gap hnn lb hgood hspan h hi (is := is) his
  have hdS := fun e f he hf => dS_small sm (e := e) (f := f) he hf
  clear hgood hspan hoe o om
  have lm' := lm
  generalize hmm : moreL wa wb = m at *
  have t1 := take_map_all Span.av hnn
  have t2 := take_map_all Span.av lb
  have t3 := take_map_all Span.av lm
  refine lim_ex (fn := a37) (k := 5) (res := [.cell 10 2 true, .tmp 11]) rfl rfl rfl (by simp -implicitDefEqProofs (maxSteps := 2000000) (disch := first | exact tt_rfl rfl | omega | (simp only [go_sem] <;> omega) | fail) only [go_sem]) ?_
  simp -implicitDefEqProofs (maxSteps := 2000000) (disch := first | exact tt_rfl rfl | omega | (simp only [go_sem] <;> omega) | fail) only [go_sem]
  repeat (first | apply Wp.seqA | apply Wp.skipS | apply Wp.blockS | ((first | apply Wp.regS | apply Wp.condV | apply Wp.reg | apply Wp.condW | apply fin_ret); simp -implicitDefEqProofs (maxSteps := 2000000) (disch := first | exact tt_rfl rfl | omega | (simp only [go_sem] <;> omega) | fail) only [go_sem, h, hw, hge, hhas, List.getElem?_map, Option.map_some, Span.av.eq_1, lm, hnn, lb] <;> try with_reducible rfl) | apply Wp.block | apply Wp.exitS | apply Wp.retS | apply Wp.exit | apply Wp.ret | apply Wp.skip)
  apply Wp.loopF ts.length (fun k => match k with
    | 0 => ⟨[(10, .ptr 640 0 0), (12, .ptr 768 0 0), (14, .mapp 896), (58, .list 1 (ts.map fun n => iv n)), (59, iv ts.length), (60, iv 0)],
      [(640, .box [.slice 60240 0 0, .slice 60241 0 0]), (768, .box [.slice 62288 0 n, .slice 62289 0 n, .slice 62290 0 n]), (896, .mp .i64 (kvM edge ahead (ts.take 0))), (62288, .arr 2 (wa.map Span.av)), (62289, .arr 2 (wb.map Span.av)), (62290, .arr 2 (m.map Span.av)), (60240, .arr 1 []), (60241, .arr 1 [])], [], 1000000⟩
    | k + 1 => ⟨[(10, .ptr 640 0 0), (12, .ptr 768 0 0), (14, .mapp 896), (58, .list 1 (ts.map fun n => iv n)), (59, iv ts.length), (60, iv (k + 1 : Nat))],
      [(640, .box [.slice 60240 0 0, .slice 60241 0 0]), (768, .box [.slice 62288 0 n, .slice 62289 0 n, .slice 62290 0 n]), (896, .mp .i64 (kvM edge ahead (ts.take (k + 1)))), (60240, .arr 1 []), (60241, .arr 1 []), (62288, .arr 2 (wa.map Span.av)), (62289, .arr 2 (wb.map Span.av)), (62290, .arr 2 (m.map Span.av))], [], 1000000⟩) (fun _ => True)
  · simp -implicitDefEqProofs (maxSteps := 2000000) (disch := first | exact tt_rfl rfl | omega | (simp only [go_sem] <;> omega) | fail) only [go_sem, norm_eq, Ok.some]
    simp [kvM, hnn, lb, lm]
  · trivial
  intro k hk _
  have hw1 : ∀ {f : Nat} {was : Int} {A B : List Int} {i : Nat}, ShowInv wa wb ts edge ahead i f was A B → -10000 * (f : Int) ≤ was ∧ was ≤ 10000 * f := by
    intro f was A B i inv
    have := ahT_bound wda wdb inv.fit
    rw [inv.now] at this; exact this
  have hkg : ∀ x : Nat, kvGet (x : Int) (kvM edge ahead ts) = if (x : Int) ∈ ts then some (iv 0) else if (edge : Int) = x then some (iv ahead) else none := by
    intro x
    unfold kvM
    rw [kvM_get (edge := edge) (ahead := ahead)]
    rfl
  have inv0 : ShowInv wa wb ts edge ahead 1 0 0 [] [] := by
    refine ⟨by omega, rfl, rfl, .inl rfl, fun x h1 h2 => by omega, fun j hj => by omega, rfl, fun _ => rfl, fun e => (he0 (.inl e.symm)).symm, fun x h1 _ => ?_, fun e => ?_⟩
    · obtain rfl : x = 0 := by omega
      rfl
    · obtain rfl : edge = 0 := by omega
      exact (he0 (.inl rfl)).symm
  clear h hw hge hhas hel
  by_cases hkl : k < ts.length
  · have hkv := kvM_take (edge := edge) (ahead := ahead) hkl
    rcases k with _ | k
    all_goals
      first | (have hz : (0 : Int) < ts.length := by omega) | skip
      repeat (first | apply Wp.seqA | apply Wp.skipS | apply Wp.blockS | ((first | apply Wp.regS | apply Wp.condV | apply Wp.reg | apply Wp.condW | apply fin_ret); simp -implicitDefEqProofs (maxSteps := 2000000) (disch := first | exact tt_rfl rfl | omega | (simp only [go_sem] <;> omega) | fail) only [go_sem, hkl, hz, Int.ofNat_lt, List.getElem?_map, List.getElem?_eq_getElem hkl, Option.map_some] <;> try with_reducible rfl) | apply Wp.block | apply Wp.exitS | apply Wp.retS | apply Wp.exit | apply Wp.ret | apply Wp.skip)
      apply round_next
      · simp -implicitDefEqProofs (maxSteps := 2000000) (disch := first | exact tt_rfl rfl | omega | (simp only [go_sem] <;> omega) | fail) only [go_sem, norm_eq, Ok.some]; with_reducible rfl
      refine ⟨hkl, ?_, trivial⟩
      simp [hkv]
  · have hke : k = ts.length := by omega
    have htk : kvM edge ahead (ts.take k) = kvM edge ahead ts := by rw [hke, List.take_length]
    rcases k with _ | k
    all_goals
      first | (have hz : ¬ (0 : Int) < ts.length := by omega) | (have hz : ¬ ((k + 1 : Nat) : Int) < ts.length := by omega)
      repeat (first | apply Wp.seqA | apply Wp.skipS | apply Wp.blockS | ((first | apply Wp.regS | apply Wp.condV | apply Wp.reg | apply Wp.condW | apply fin_ret); simp -implicitDefEqProofs (maxSteps := 2000000) (disch := first | exact tt_rfl rfl | omega | (simp only [go_sem] <;> omega) | fail) only [go_sem, hz, htk] <;> try with_reducible rfl) | apply Wp.block | apply Wp.exitS | apply Wp.retS | apply Wp.exit | apply Wp.ret | apply Wp.skip)
      apply Wp.loopN n (fun i fr => ∃ A B f was, fr = ⟨[(10, .ptr 640 0 0), (12, .ptr 768 0 0), (14, .mapp 896), (17, iv (f : Nat)), (18, iv was), (19, iv (i + 1 : Nat))],
        [(640, .box [.slice 60240 0 A.length, .slice 60241 0 B.length]), (768, .box [.slice 62288 0 n, .slice 62289 0 n, .slice 62290 0 n]), (896, .mp .i64 (kvM edge ahead ts)), (60240, .arr 1 (A.map fun n => iv n)), (60241, .arr 1 (B.map fun n => iv n)), (62288, .arr 2 (wa.map Span.av)), (62289, .arr 2 (wb.map Span.av)), (62290, .arr 2 (m.map Span.av))], [], 1000000⟩ ∧ ShowInv wa wb ts edge ahead (i + 1) f was A B)
      · simp -implicitDefEqProofs (maxSteps := 2000000) (disch := first | exact tt_rfl rfl | omega | (simp only [go_sem] <;> omega) | fail) only [go_sem, norm_eq, Ok.some]
        exact ⟨[], [], 0, 0, by simpa using htk, inv0⟩
      rintro i fr hi ⟨A, B, f, was, rfl, inv⟩
      have hlA := inv.la
      have hlB := inv.lb
      have hlt := inv.lt
      have hwb := hw1 inv
      by_cases hin : i < n
      · have hg := hkg (i + 1)
        have hlm : (A ++ (List.range (i + 1 - f)).map (fA wa wb m f (i + 1) (0 - was))).length = i + 1 := by simp; omega
        by_cases m1 : ((i + 1 : Nat) : Int) ∈ ts
        · rw [if_pos m1] at hg
          have hgp := hgap inv (by omega) (.inl ⟨m1, rfl⟩)
          have hst := hstep inv (by omega) (.inl ⟨m1, rfl⟩)
          have hf := hfill f (i + 1) (0 - was) A B (by omega) (by omega) hgp (by omega) (by omega)
          clear hgap hstep hfill hdS inv inv0 hkg
          repeat (first | apply Wp.seqA | apply Wp.skipS | apply Wp.blockS | ((first | apply Wp.regS | apply Wp.condV | apply Wp.reg | apply Wp.condW | apply fin_ret); simp -implicitDefEqProofs (maxSteps := 2000000) (disch := first | exact tt_rfl rfl | omega | (simp only [go_sem] <;> omega) | fail) only [go_sem, hin, lm, hg, hf, t1, t2, t3, show ((i + 1 : Nat) : Int) ≤ n by omega] <;> try with_reducible rfl) | apply Wp.block | apply Wp.exitS | apply Wp.retS | apply Wp.exit | apply Wp.ret | apply Wp.skip)
          apply round_next
          · simp -implicitDefEqProofs (maxSteps := 2000000) (disch := first | exact tt_rfl rfl | omega | (simp only [go_sem] <;> omega) | fail) only [go_sem, norm_eq, Ok.some]; with_reducible rfl
          refine ⟨hin, _, _, i + 1, 0, ?_, hst⟩
          simp
        · rw [if_neg m1] at hg
          by_cases m2 : i + 1 = edge
          · rw [if_pos (by omega)] at hg
            have hgp := hgap inv (by omega) (.inr ⟨m1, m2, rfl⟩)
            have hst := hstep inv (by omega) (.inr ⟨m1, m2, rfl⟩)
            have hf := hfill f (i + 1) (ahead - was) A B (by omega) (by omega) hgp (by omega) (by omega)
            have d1 := hdS (i + 1) f (by omega) (by omega)
            clear hgap hstep hfill hdS inv inv0 hkg
            repeat (first | apply Wp.seqA | apply Wp.skipS | apply Wp.blockS | ((first | apply Wp.regS | apply Wp.condV | apply Wp.reg | apply Wp.condW | apply fin_ret); simp -implicitDefEqProofs (maxSteps := 2000000) (disch := first | exact tt_rfl rfl | omega | (simp only [go_sem] <;> omega) | fail) only [go_sem, hin, lm, hg, hf, t1, t2, t3, show ((i + 1 : Nat) : Int) ≤ n by omega] <;> try with_reducible rfl) | apply Wp.block | apply Wp.exitS | apply Wp.retS | apply Wp.exit | apply Wp.ret | apply Wp.skip)
            apply round_next
            · simp -implicitDefEqProofs (maxSteps := 2000000) (disch := first | exact tt_rfl rfl | omega | (simp only [go_sem] <;> omega) | fail) only [go_sem, norm_eq, Ok.some]; with_reducible rfl
            refine ⟨hin, _, _, i + 1, ahead, ?_, hst⟩
            simp
          · rw [if_neg (by omega)] at hg
            have hst : ShowInv wa wb ts edge ahead (i + 1 + 1) f was A B := by
              obtain ⟨q1, q2, q3, q4, q5, q6, q7, q8, q9, q10, q11⟩ := inv
              refine ⟨by omega, q2, q3, q4, fun x h1 h2 => ?_, q6, q7, q8, q9, q10, q11⟩
              by_cases e : x = i + 1
              · subst e; exact ⟨m1, m2⟩
              · exact q5 x h1 (by omega)
            clear hgap hstep hfill hdS inv inv0 hkg
            repeat (first | apply Wp.seqA | apply Wp.skipS | apply Wp.blockS | ((first | apply Wp.regS | apply Wp.condV | apply Wp.reg | apply Wp.condW | apply fin_ret); simp -implicitDefEqProofs (maxSteps := 2000000) (disch := first | exact tt_rfl rfl | omega | (simp only [go_sem] <;> omega) | fail) only [go_sem, hin, lm, hg, t1, t2, t3, show ((i + 1 : Nat) : Int) ≤ n by omega] <;> try with_reducible rfl) | apply Wp.block | apply Wp.exitS | apply Wp.retS | apply Wp.exit | apply Wp.ret | apply Wp.skip)
            apply round_next
            · simp -implicitDefEqProofs (maxSteps := 2000000) (disch := first | exact tt_rfl rfl | omega | (simp only [go_sem] <;> omega) | fail) only [go_sem, norm_eq, Ok.some]; with_reducible rfl
            refine ⟨hin, A, B, f, was, ?_, hst⟩
            simp
      · obtain rfl : i = n := by omega
        clear hgap hstep hfill hdS inv0 hkg
        repeat (first | apply Wp.seqA | apply Wp.skipS | apply Wp.blockS | ((first | apply Wp.regS | apply Wp.condV | apply Wp.reg | apply Wp.condW | apply fin_ret); simp -implicitDefEqProofs (maxSteps := 2000000) (disch := first | exact tt_rfl rfl | omega | (simp only [go_sem] <;> omega) | fail) only [go_sem, lm, show ¬ ((i + 1 : Nat) : Int) ≤ i by omega] <;> try with_reducible rfl) | apply Wp.block | apply Wp.exitS | apply Wp.retS | apply Wp.exit | apply Wp.ret | apply Wp.skip)
        apply Wp.loopN (i - f) (fun k fr => ∃ A B, fr = ⟨[(10, .ptr 640 0 0), (12, .ptr 768 0 0), (22, iv (f + k : Nat))],
          [(640, .box [.slice 60240 0 A.length, .slice 60241 0 B.length]), (768, .box [.slice 62288 0 i, .slice 62289 0 i, .slice 62290 0 i]), (60240, .arr 1 (A.map fun n => iv n)), (60241, .arr 1 (B.map fun n => iv n)), (62288, .arr 2 (wa.map Span.av)), (62289, .arr 2 (wb.map Span.av)), (62290, .arr 2 (m.map Span.av))], [], 1000000⟩ ∧
          A.length = f + k ∧ B.length = f + k ∧ (∀ j, j < f + k → FitT wa wb A B j) ∧ (∀ x : Nat, x ≤ f → (x : Int) ∈ ts → ahT A B x = 0) ∧ (edge ≤ f → ahT A B edge = ahead))
        · simp -implicitDefEqProofs (maxSteps := 2000000) (disch := first | exact tt_rfl rfl | omega | (simp only [go_sem] <;> omega) | fail) only [go_sem, norm_eq, Ok.some]
          exact ⟨A, B, by simp, hlA, hlB, inv.fit, inv.marks, inv.edge⟩
        have hbt := inv.between
        clear inv hlA hlB hwb
        rintro k fr hk2 ⟨A, B, rfl, hlA, hlB, hfit, hmz, hez⟩
        by_cases hkf : f + k < i
        · have xa : wa[f + k]? = some (at' wa (f + k)) := at'_eq (by omega)
          have xb : wb[f + k]? = some (at' wb (f + k)) := at'_eq (by omega)
          have hft := fit_low oa ob hlA hlB hkf hfit
          repeat (first | apply Wp.seqA | apply Wp.skipS | apply Wp.blockS | ((first | apply Wp.regS | apply Wp.condV | apply Wp.reg | apply Wp.condW | apply fin_ret); simp -implicitDefEqProofs (maxSteps := 2000000) (disch := first | exact tt_rfl rfl | omega | (simp only [go_sem] <;> omega) | fail) only [go_sem, lm, show ((f + k : Nat) : Int) < i by omega, List.getElem?_map, xa, xb, Option.map_some, Span.av.eq_1] <;> try with_reducible rfl) | apply Wp.block | apply Wp.exitS | apply Wp.retS | apply Wp.exit | apply Wp.ret | apply Wp.skip)
          apply round_next
          · simp -implicitDefEqProofs (maxSteps := 2000000) (disch := first | exact tt_rfl rfl | omega | (simp only [go_sem] <;> omega) | fail) only [go_sem, norm_eq, Ok.some]; with_reducible rfl
          refine ⟨by omega, A ++ [(at' wa (f + k)).lo], B ++ [(at' wb (f + k)).lo], by simp; omega, by simp; omega, by simp; omega, hft, fun x h1 h2 => ?_, fun h1 => ?_⟩
          · rw [ahT_app (by omega) (by omega)]; exact hmz x h1 h2
          · rw [ahT_app (by omega) (by omega)]; exact hez h1
        · obtain rfl : k = i - f := by omega
          repeat (first | apply Wp.seqA | apply Wp.skipS | apply Wp.blockS | ((first | apply Wp.regS | apply Wp.condV | apply Wp.reg | apply Wp.condW | apply fin_ret); simp -implicitDefEqProofs (maxSteps := 2000000) (disch := first | exact tt_rfl rfl | omega | (simp only [go_sem] <;> omega) | fail) only [go_sem, lm, show ¬ ((f + (i - f) : Nat) : Int) < i by omega] <;> try with_reducible rfl) | apply Wp.block | apply Wp.exitS | apply Wp.retS | apply Wp.exit | apply Wp.ret | apply Wp.skip)
          refine finp_ret (r := (.tuple [.agg [.own 1 (A.map fun n => iv n), .own 1 (B.map fun n => iv n)], iv 0], [])) ?_ ⟨⟨A, B⟩, rfl, ?_⟩
          · simp -implicitDefEqProofs (maxSteps := 2000000) (disch := first | exact tt_rfl rfl | omega | (simp only [go_sem] <;> omega) | fail) only [go_sem]
          · refine ⟨by simp only; omega, by simp only; omega, fun j hj => hfit j (by omega), fun x h1 h2 => ?_, ?_⟩
            · by_cases c : x ≤ f
              · exact hmz x c h2
              · exact absurd h2 (hbt x (by omega) (by omega)).1
            · by_cases c : edge ≤ f
              · exact hez c
              · exact absurd rfl (hbt edge (by omega) (by omega)).2
end Go.Abs
