/-
  Chapter 7: what the program reckons mark by mark is what the reference reckons from both ends. Plain.
-/
import Derived.Test.YtfokmdhmaabegaaS6
set_option linter.all false
namespace Go.Abs

/-- the sum of the spans between two edges -/
def dS (m : List Span) (f e : Nat) : Span := ⟨(pre m e).lo - (pre m f).lo, (pre m e).hi - (pre m f).hi⟩

theorem pre_drop {m : List Span} {f : Nat} : ∀ {k : Nat}, f + k ≤ m.length → pre (m.drop f) k = dS m f (f + k)
  | 0, _ => by simp [pre, dS]
  | k + 1, h => by
    rw [pre_succ (by simp; omega), pre_drop (by omega)]
    simp only [List.getElem_drop, dS, Span.add, ← Nat.add_assoc, pre_succ (show f + k < m.length by omega)]
    congr 1 <;> omega
theorem pre_take {m : List Span} {n : Nat} : ∀ {k : Nat}, k ≤ n → n ≤ m.length → pre (m.take n) k = pre m k
  | 0, _, _ => rfl
  | k + 1, h, hn => by
    rw [pre_succ (by simp; omega), pre_succ (by omega), pre_take (by omega) hn]
    simp
theorem pre_seg {m : List Span} {f t k : Nat} (h1 : f + k ≤ t) (h2 : t ≤ m.length) : pre (seg m f t) k = dS m f (f + k) := by
  unfold seg
  rw [pre_take (by omega) (by simp; omega), pre_drop (by omega)]

theorem dS_small {m : List Span} (h : Small m) {f e : Nat} (he : e ≤ m.length) (hf : f ≤ m.length) : -8000000 ≤ (dS m f e).lo ∧ (dS m f e).lo ≤ 8000000 ∧ -8000000 ≤ (dS m f e).hi ∧ (dS m f e).hi ≤ 8000000 := by
  have := h.pre e he
  have := h.pre f hf
  have := h.1
  simp only [dS]
  omega

section
variable {wa wb : List Span} {ts0 : List Int} (hl : wa.length = wb.length)
include hl

theorem more_at {i : Nat} (h : i < wa.length) : (moreL wa wb)[i]? = some ⟨(at' wa i).lo - (at' wb i).hi, (at' wa i).hi - (at' wb i).lo⟩ := by
  have h' : i < (moreL wa wb).length := by simp [moreL]; omega
  rw [List.getElem?_eq_getElem h', at'_get h, at'_get (by omega : i < wb.length)]
  simp [moreL, Span.sub]
theorem more_length : (moreL wa wb).length = wa.length := by simp [moreL]; omega
theorem pre_more {i : Nat} (h : i < wa.length) : pre (moreL wa wb) (i + 1) = ⟨(pre (moreL wa wb) i).lo + ((at' wa i).lo - (at' wb i).hi), (pre (moreL wa wb) i).hi + ((at' wa i).hi - (at' wb i).lo)⟩ := by
  simp only [pre, more_at hl h, Span.add]

theorem fo_seg {f : Nat} (h0 : fo wa wb ts0 f = ⟨0, 0⟩) : ∀ {e : Nat}, f ≤ e → e ≤ wa.length → (∀ x : Nat, f < x → x ≤ e → ((x : Nat) : Int) ∉ ts0) → fo wa wb ts0 e = dS (moreL wa wb) f e := by
  intro e
  induction e with
  | zero => intro h1 _ _; obtain rfl : f = 0 := by omega
            rw [h0]; simp [dS]
  | succ e ih =>
    intro h1 h2 h3
    by_cases c : f = e + 1
    · subst c; rw [h0]; simp [dS]
    · have hm : ((e : Int) + 1) ∉ ts0 := by have := h3 (e + 1) (by omega) (by omega); simpa using this
      rw [fo, if_neg hm, ih (by omega) (by omega) fun x hx hxe => h3 x hx (by omega)]
      simp only [foR, dS, pre_more hl (show e < wa.length by omega)]
      congr 1 <;> omega

theorem ba_seg {t : Nat} (ht : t ≤ wa.length) (hb : baD wa wb ts0 wa.length (wa.length - t) = ⟨0, 0⟩) : ∀ (j : Nat), j < t → (∀ x : Nat, t - j ≤ x → x < t → ((x : Nat) : Int) ∉ ts0) →
    baD wa wb ts0 wa.length (wa.length - (t - j)) = ⟨0 - (dS (moreL wa wb) (t - j) t).hi, 0 - (dS (moreL wa wb) (t - j) t).lo⟩ := by
  intro j
  induction j with
  | zero => intro _ _; rw [Nat.sub_zero, hb]; simp [dS]
  | succ j ih =>
    intro h1 h2
    have ih := ih (by omega) fun x hx hxt => h2 x (by omega) hxt
    rw [show wa.length - (t - (j + 1)) = (wa.length - (t - j)) + 1 by omega, baD]
    have hm := h2 (t - (j + 1)) (by omega) (by omega)
    have e1 : (wa.length : Int) - ((wa.length - (t - j) + 1 : Nat) : Int) = ((t - (j + 1) : Nat) : Int) := by omega
    rw [e1, if_neg (by rintro (h | h); omega; exact hm h), ih, show wa.length - (wa.length - (t - j) + 1) = t - (j + 1) by omega]
    have hp := pre_more hl (show t - (j + 1) < wa.length by omega)
    rw [show t - (j + 1) + 1 = t - j by omega] at hp
    simp only [dS, hp]
    congr 1 <;> omega

theorem ba_end : ∀ (j : Nat), j < wa.length → (∀ x : Nat, wa.length - j ≤ x → x ≤ wa.length → ((x : Nat) : Int) ∉ ts0) →
    baD wa wb ts0 wa.length j = ⟨-1099511627776 - (dS (moreL wa wb) (wa.length - j) wa.length).hi, 1099511627776 - (dS (moreL wa wb) (wa.length - j) wa.length).lo⟩ := by
  intro j
  induction j with
  | zero =>
    intro h1 h2
    rw [baD, if_neg (by rintro (h | h); omega; exact h2 wa.length (by omega) (by omega) h)]
    simp [dS, big]
  | succ j ih =>
    intro h1 h2
    have ih := ih (by omega) fun x hx hxt => h2 x (by omega) hxt
    have hm := h2 (wa.length - (j + 1)) (by omega) (by omega)
    have e1 : (wa.length : Int) - ((j + 1 : Nat) : Int) = ((wa.length - (j + 1) : Nat) : Int) := by omega
    rw [baD, e1, if_neg (by rintro (h | h); omega; exact hm h), ih]
    have hp := pre_more hl (show wa.length - (j + 1) < wa.length by omega)
    rw [show wa.length - (j + 1) + 1 = wa.length - j by omega] at hp
    simp only [dS, hp]
    congr 1 <;> omega

theorem ba_mark {e : Nat} (he : e ≤ wa.length) (h : e = 0 ∨ ((e : Nat) : Int) ∈ ts0) : baD wa wb ts0 wa.length (wa.length - e) = ⟨0, 0⟩ := by
  by_cases c : e = wa.length
  · rw [c, Nat.sub_self, baD, if_pos (by rcases h with h | h; left; omega; right; rw [← c]; exact h)]
  · rw [show wa.length - e = (wa.length - e - 1) + 1 by omega, baD]
    have e1 : (wa.length : Int) - ((wa.length - e - 1 + 1 : Nat) : Int) = (e : Int) := by omega
    rw [e1, if_pos (by rcases h with h | h; left; omega; right; exact h)]

theorem go_iff (hsm : Small (moreL wa wb)) : ∀ {ts : List Int} {f : Nat}, f ≤ wa.length → (f = 0 ∨ (f : Int) ∈ ts0) → Up wa.length f ts → (∀ x : Nat, f < x → ((x : Int) ∈ ts0 ↔ (x : Int) ∈ ts)) →
    (∀ l, aheadGo (moreL wa wb) f ts = some l → (∀ i, f ≤ i → i < wa.length → ¬ BadAt wa wb ts0 i) ∧ l = (List.range (wa.length - f + 1)).map fun k => outR wa wb ts0 wa.length (f + k)) ∧
    (aheadGo (moreL wa wb) f ts = none → ∃ i, f ≤ i ∧ i < wa.length ∧ BadAt wa wb ts0 i) := by
  have hml := more_length hl
  have fo0 : ∀ f : Nat, (f = 0 ∨ (f : Int) ∈ ts0) → fo wa wb ts0 f = ⟨0, 0⟩ := by
    intro f h
    cases f with
    | zero => rfl
    | succ f => rw [fo, if_pos (by rcases h with h | h; omega; simpa using h)]
  intro ts
  induction ts with
  | nil =>
    intro f hf h0 _ hm
    have hno : ∀ x : Nat, f < x → ((x : Nat) : Int) ∉ ts0 := fun x hx h => by simpa using (hm x hx).1 h
    refine ⟨fun l h => ?_, fun h => by simp [aheadGo] at h⟩
    simp only [aheadGo, Option.some.injEq] at h
    subst h
    refine ⟨fun i hi _ hb => hno (i + 1) (by omega) (by simpa using hb.1), ?_⟩
    simp only [sumsL, List.length_drop, hml]
    refine List.map_congr_left fun k hk => ?_
    have hk := List.mem_range.1 hk
    rw [pre_drop (by omega)]
    have hfo := fo_seg hl (fo0 f h0) (show f ≤ f + k by omega) (by omega) fun x hx _ => hno x hx
    simp only [outR, hfo]
    by_cases c : k = 0
    · subst c
      rw [Nat.add_zero, ba_mark hl hf h0]
      simp [dS]
    · have := ba_end (ts0 := ts0) hl (wa.length - (f + k)) (by omega) fun x hx _ => hno x (by omega)
      rw [show wa.length - (wa.length - (f + k)) = f + k by omega] at this
      rw [this]
      have d1 := dS_small hsm (f := f) (e := f + k) (by omega) (by omega)
      have d2 := dS_small hsm (f := f + k) (e := wa.length) (by omega) (by omega)
      dsimp only
      rw [Int.max_eq_left (by omega), Int.min_eq_left (by omega)]
  | cons t ts ih =>
    intro f hf h0 hup hm
    obtain ⟨u1, u2, u3⟩ := hup
    have eT : ((t.toNat : Nat) : Int) = t := Int.toNat_of_nonneg (by omega)
    generalize hT : t.toNat = T at *
    have hTmem : ((T : Nat) : Int) ∈ ts0 := (hm T (by omega)).2 (by rw [eT]; simp)
    have hno : ∀ x : Nat, f < x → x < T → ((x : Nat) : Int) ∉ ts0 := by
      intro x hx hxT h
      have h1 := (hm x hx).1 h
      rcases List.mem_cons.1 h1 with h2 | h2
      · omega
      · have key : ∀ (l : List Int) (y : Int), Up wa.length y l → ∀ z ∈ l, y < z := by
          intro l
          induction l with
          | nil => simp
          | cons w l ihl =>
            intro y hy z hz
            obtain ⟨y1, y2, y3⟩ := hy
            rcases List.mem_cons.1 hz with rfl | hz
            · exact y1
            · have := ihl w y3 z hz; omega
        have := key ts t u3 _ h2
        omega
    have hfoT := fo_seg hl (fo0 f h0) (show f ≤ T - 1 by omega) (by omega) fun x hx hxe => hno x hx (by omega)
    have hraw : foR wa wb (fo wa wb ts0 (T - 1)) (T - 1) = dS (moreL wa wb) f T := by
      have hp := pre_more hl (show T - 1 < wa.length by omega)
      rw [show T - 1 + 1 = T by omega] at hp
      rw [hfoT]
      simp only [foR, dS, hp]
      congr 1 <;> omega
    have hseg := pre_seg (m := moreL wa wb) (f := f) (t := T) (k := T - f) (by omega) (by omega)
    rw [show f + (T - f) = T by omega] at hseg
    have hbadT : BadAt wa wb ts0 (T - 1) ↔ ¬ (dS (moreL wa wb) f T).Has0 := by
      have : ((T - 1 : Nat) : Int) + 1 = T := by omega
      simp only [BadAt, this, hTmem, true_and, hraw]
    simp only [aheadGo, hT, hseg]
    by_cases hz : (dS (moreL wa wb) f T).Has0
    · rw [if_pos hz]
      obtain ⟨i1, i2⟩ := ih (f := T) (by omega) (.inr hTmem) (by rw [eT]; exact u3) fun x hx => by
        rw [hm x (by omega), List.mem_cons]
        constructor
        · rintro (h | h)
          · omega
          · exact h
        · exact .inr
      constructor
      · intro l hll
        cases hx : aheadGo (moreL wa wb) T ts with
        | none => rw [hx] at hll; cases hll
        | some l' =>
          rw [hx] at hll
          simp only [Option.map_some, Option.some.injEq] at hll
          obtain ⟨j1, j2⟩ := i1 l' hx
          refine ⟨fun i hi hin => ?_, ?_⟩
          · by_cases c : T ≤ i
            · exact j1 i c hin
            · by_cases c2 : i = T - 1
              · subst c2; rw [hbadT]; exact fun h => h hz
              · intro hb
                exact hno (i + 1) (by omega) (by omega) (by simpa using hb.1)
          · subst hll
            rw [show wa.length - f + 1 = (T - f) + (wa.length - T + 1) by omega, List.range_add, List.map_append, j2]
            congr 1
            · have hsl : (seg (moreL wa wb) f T).length = T - f := seg_length (by omega) (by omega)
              simp only [strL, hsl, ← List.map_take, List.take_range, Nat.min_eq_left (show T - f ≤ T - f + 1 by omega)]
              refine List.map_congr_left fun k hk => ?_
              have hk := List.mem_range.1 hk
              have p1 := pre_seg (m := moreL wa wb) (f := f) (t := T) (k := k) (by omega) (by omega)
              have hfo := fo_seg hl (fo0 f h0) (show f ≤ f + k by omega) (by omega) fun x hx hxe => hno x hx (by omega)
              simp only [strE, hsl, hseg, p1, outR, hfo]
              by_cases c : k = 0
              · subst c
                rw [Nat.add_zero, ba_mark hl hf h0]
                obtain ⟨z1, z2⟩ := hz
                simp only [dS] at z1 z2 ⊢
                congr 1 <;> omega
              · have hb := ba_seg (ts0 := ts0) hl (show T ≤ wa.length by omega) (ba_mark hl (by omega) (.inr hTmem)) (T - (f + k)) (by omega) fun x hx hxT => hno x (by omega) hxT
                rw [show T - (T - (f + k)) = f + k by omega] at hb
                rw [hb]
                simp only [dS]
                congr 1 <;> congr 1 <;> omega
            · rw [List.map_map]
              refine List.map_congr_left fun k hk => ?_
              simp only [Function.comp]
              rw [show f + (T - f + k) = T + k by omega]
      · intro h
        cases hx : aheadGo (moreL wa wb) T ts with
        | none =>
          obtain ⟨i, k1, k2, k3⟩ := i2 hx
          exact ⟨i, by omega, k2, k3⟩
        | some l' => rw [hx] at h; cases h
    · rw [if_neg hz]
      refine ⟨(fun l h => by cases h), fun _ => ⟨T - 1, by omega, by omega, hbadT.2 hz⟩⟩
end

/-- with marks that ascend: the program's list is the reference's -/
theorem ahead_ref {a b : List Part} {ts : List Int} (h : (pairL a b).e = 0) (hall : (ts.all fun t => decide (1 ≤ t ∧ t ≤ (pairL a b).more.length)) = true) (hinc : incL ts = true) :
    (∀ l, aheadGo (pairL a b).more 0 ts = some l → (∀ i, i < (widthsL a).length → ¬ BadAt (widthsL a) (widthsL b) ts i) ∧ l = (List.range ((widthsL a).length + 1)).map (outR (widthsL a) (widthsL b) ts (widthsL a).length)) ∧
    (aheadGo (pairL a b).more 0 ts = none → ∃ i, i < (widthsL a).length ∧ BadAt (widthsL a) (widthsL b) ts i) := by
  obtain ⟨h1, h2, h3, h4⟩ := pairL_ok h
  have la := widths_length (checkL_zero h1).2.1
  have lb := widths_length (checkL_zero h2).2.1
  have hl : (widthsL a).length = (widthsL b).length := by omega
  rw [h4] at hall ⊢
  simp only [more_length hl] at hall ⊢
  have hup : Up (widthsL a).length 0 ts := up_of (fun t ht => by have := List.all_eq_true.1 hall t ht; simp at this; omega) hinc
  have := go_iff (ts0 := ts) hl (more_small h1 h2) (ts := ts) (f := 0) (by omega) (.inl rfl) hup fun x _ => Iff.rfl
  refine ⟨fun l hll => ?_, fun hn => ?_⟩
  · obtain ⟨q1, q2⟩ := this.1 l hll
    refine ⟨fun i hi => q1 i (by omega) hi, ?_⟩
    rw [q2]
    simp
  · obtain ⟨i, _, q2, q3⟩ := this.2 hn
    exact ⟨i, q2, q3⟩

theorem refOpen_ok (a b : List Part) (ts : List Int) (hts : ts.length ≤ 1000) : lim F 25 [.list 3 (a.map Part.av), .list 3 (b.map Part.av), .list 1 (ts.map fun n => iv n)] = some (iv (openE a b ts), []) := by
  have hp := refPair_ok a b
  unfold openE
  by_cases h0 : (pairL a b).e = 0
  · obtain ⟨h1, h2, h3, h4⟩ := pairL_ok h0
    obtain ⟨a1, a2, a3⟩ := checkL_zero h1
    have hpk := Picks_ok a a1 a2
    have la := widths_length a2
    have lb := widths_length (checkL_zero h2).2.1
    have hl : (widthsL a).length = (widthsL b).length := by omega
    have hmo : ((pairL a b).more.length : Int) = picksL a := by rw [h4]; simp only [more_length hl]; omega
    have hbad := refAhead_ok a b ts hts h1 h2 h3
    have hmath := fun x y => ahead_ref (ts := ts) h0 x y
    rw [h0] at hp
    simp only [hmo, h0, ne_eq, not_true_eq_false, if_false] at hmath ⊢
    refine lim_by (fn := a25) (k := 3) (res := [.tmp 6]) rfl rfl rfl (by simp -implicitDefEqProofs (maxSteps := 2000000) (disch := first | exact tt_rfl rfl | omega | (simp only [go_sem] <;> omega) | fail) only [go_sem]) ?_
    simp -implicitDefEqProofs (maxSteps := 2000000) (disch := first | exact tt_rfl rfl | omega | (simp only [go_sem] <;> omega) | fail) only [go_sem]
    repeat (first | apply Wp.seqA | apply Wp.skipS | apply Wp.blockS | ((first | apply Wp.regS | apply Wp.condV | apply Wp.reg | apply Wp.condW | apply fin_ret); simp -implicitDefEqProofs (maxSteps := 2000000) (disch := first | exact tt_rfl rfl | omega | (simp only [go_sem] <;> omega) | fail) only [go_sem, hp] <;> try with_reducible rfl) | apply Wp.block | apply Wp.exitS | apply Wp.retS | apply Wp.exit | apply Wp.ret | apply Wp.skip)
    apply Wp.loopF ts.length (fun i => ⟨[(0, .list 3 (a.map Part.av)), (1, .list 3 (b.map Part.av)), (2, .list 1 (ts.map fun n => iv n)), (8, iv i)], [], [], 1000000⟩) (fun i => ∀ t ∈ ts.take i, 1 ≤ t ∧ t ≤ picksL a)
    · simp -implicitDefEqProofs (maxSteps := 2000000) (disch := first | exact tt_rfl rfl | omega | (simp only [go_sem] <;> omega) | fail) only [go_sem, norm_eq, Ok.some]
    · simp
    intro i hi hr
    by_cases h : i < ts.length
    · have hI := In_ok ts[i] 1 (picksL a)
      by_cases c : 1 ≤ ts[i] ∧ ts[i] ≤ picksL a
      · rw [decide_eq_true c] at hI
        repeat (first | apply Wp.seqA | apply Wp.skipS | apply Wp.blockS | ((first | apply Wp.regS | apply Wp.condV | apply Wp.reg | apply Wp.condW | apply fin_ret); simp -implicitDefEqProofs (maxSteps := 2000000) (disch := first | exact tt_rfl rfl | omega | (simp only [go_sem] <;> omega) | fail) only [go_sem, h, Int.ofNat_lt, List.getElem?_map, List.getElem?_eq_getElem h, Option.map_some, hpk, hI] <;> try with_reducible rfl) | apply Wp.block | apply Wp.exitS | apply Wp.retS | apply Wp.exit | apply Wp.ret | apply Wp.skip)
        apply round_next
        · simp -implicitDefEqProofs (maxSteps := 2000000) (disch := first | exact tt_rfl rfl | omega | (simp only [go_sem] <;> omega) | fail) only [go_sem, norm_eq, Ok.some]; with_reducible rfl
        refine ⟨h, by simp, fun t ht => ?_⟩
        rw [List.take_succ_eq_append_getElem h, List.mem_append] at ht
        rcases ht with ht | ht
        · exact hr t ht
        · simp at ht; subst ht; exact c
      · rw [decide_eq_false c] at hI
        have hno : (ts.all fun t => decide (1 ≤ t ∧ t ≤ picksL a)) = false := by
          rw [List.all_eq_false]; exact ⟨ts[i], List.getElem_mem h, by simpa using c⟩
        repeat (first | apply Wp.seqA | apply Wp.skipS | apply Wp.blockS | ((first | apply Wp.regS | apply Wp.condV | apply Wp.reg | apply Wp.condW | apply fin_ret); simp -implicitDefEqProofs (maxSteps := 2000000) (disch := first | exact tt_rfl rfl | omega | (simp only [go_sem] <;> omega) | fail) only [go_sem, h, Int.ofNat_lt, List.getElem?_map, List.getElem?_eq_getElem h, Option.map_some, hpk, hI] <;> try with_reducible rfl) | apply Wp.block | apply Wp.exitS | apply Wp.retS | apply Wp.exit | apply Wp.ret | apply Wp.skip)
        rw [hno]; rfl
    · obtain rfl : i = ts.length := by omega
      have hall : (ts.all fun t => decide (1 ≤ t ∧ t ≤ picksL a)) = true := by
        rw [List.take_length] at hr
        rw [List.all_eq_true]; intro t ht; exact decide_eq_true (hr t ht)
      rw [hall]
      repeat (first | apply Wp.seqA | apply Wp.skipS | apply Wp.blockS | ((first | apply Wp.regS | apply Wp.condV | apply Wp.reg | apply Wp.condW | apply fin_ret); simp -implicitDefEqProofs (maxSteps := 2000000) (disch := first | exact tt_rfl rfl | omega | (simp only [go_sem] <;> omega) | fail) only [go_sem, Int.lt_irrefl] <;> try with_reducible rfl) | apply Wp.block | apply Wp.exitS | apply Wp.retS | apply Wp.exit | apply Wp.ret | apply Wp.skip)
      apply Wp.loopF (ts.length + 1) (fun i => ⟨[(0, .list 3 (a.map Part.av)), (1, .list 3 (b.map Part.av)), (2, .list 1 (ts.map fun n => iv n)), (9, iv ((i : Int) + 1))], [], [], 1000000⟩) (fun i => ∀ j (h : j + 1 < ts.length), j < i → ts[j] < ts[j + 1])
      · simp -implicitDefEqProofs (maxSteps := 2000000) (disch := first | exact tt_rfl rfl | omega | (simp only [go_sem] <;> omega) | fail) only [go_sem, norm_eq, Ok.some]
      · intro j hj h; omega
      intro i hi hr2
      by_cases h : i + 1 < ts.length
      · have x1 : ts[i]? = some ts[i] := List.getElem?_eq_getElem (by omega)
        have x2 : ts[i + 1]? = some ts[i + 1] := List.getElem?_eq_getElem h
        by_cases c : ts[i + 1] ≤ ts[i]
        · have hno : incL ts = false := by
            rw [← Bool.not_eq_true, incL_iff]; intro hh; have := hh i h; omega
          repeat (first | apply Wp.seqA | apply Wp.skipS | apply Wp.blockS | ((first | apply Wp.regS | apply Wp.condV | apply Wp.reg | apply Wp.condW | apply fin_ret); simp -implicitDefEqProofs (maxSteps := 2000000) (disch := first | exact tt_rfl rfl | omega | (simp only [go_sem] <;> omega) | fail) only [go_sem, show (i : Int) + 1 < ts.length by omega, List.getElem?_map, x1, x2, Option.map_some, c, show ((i : Int) + 1).toNat = i + 1 by omega, show (i : Int) + 1 - 1 = i by omega] <;> try with_reducible rfl) | apply Wp.block | apply Wp.exitS | apply Wp.retS | apply Wp.exit | apply Wp.ret | apply Wp.skip)
          rw [hno]; rfl
        · repeat (first | apply Wp.seqA | apply Wp.skipS | apply Wp.blockS | ((first | apply Wp.regS | apply Wp.condV | apply Wp.reg | apply Wp.condW | apply fin_ret); simp -implicitDefEqProofs (maxSteps := 2000000) (disch := first | exact tt_rfl rfl | omega | (simp only [go_sem] <;> omega) | fail) only [go_sem, show (i : Int) + 1 < ts.length by omega, List.getElem?_map, x1, x2, Option.map_some, c, show ((i : Int) + 1).toNat = i + 1 by omega, show (i : Int) + 1 - 1 = i by omega] <;> try with_reducible rfl) | apply Wp.block | apply Wp.exitS | apply Wp.retS | apply Wp.exit | apply Wp.ret | apply Wp.skip)
          apply round_next
          · simp -implicitDefEqProofs (maxSteps := 2000000) (disch := first | exact tt_rfl rfl | omega | (simp only [go_sem] <;> omega) | fail) only [go_sem, norm_eq, Ok.some]; with_reducible rfl
          refine ⟨by omega, by simp, fun j hj hji => ?_⟩
          by_cases e : j = i
          · subst e; omega
          · exact hr2 j hj (by omega)
      · have hyes : incL ts = true := incL_iff.2 fun j hj => hr2 j hj (by omega)
        rw [hyes]
        obtain ⟨m1, m2⟩ := hmath hall hyes
        cases hgo : aheadGo (pairL a b).more 0 ts with
        | none =>
          obtain ⟨k, k1, k2⟩ := m2 hgo
          have hb := hbad (.tuple [.own 2 [], .bool false]) (fun hg => absurd k2 (hg k k1)) fun _ _ _ => rfl
          repeat (first | apply Wp.seqA | apply Wp.skipS | apply Wp.blockS | ((first | apply Wp.regS | apply Wp.condV | apply Wp.reg | apply Wp.condW | apply fin_ret); simp -implicitDefEqProofs (maxSteps := 2000000) (disch := first | exact tt_rfl rfl | omega | (simp only [go_sem] <;> omega) | fail) only [go_sem, show ¬ (i : Int) + 1 < ts.length by omega, hb] <;> try with_reducible rfl) | apply Wp.block | apply Wp.exitS | apply Wp.retS | apply Wp.exit | apply Wp.ret | apply Wp.skip)
          rfl
        | some l =>
          obtain ⟨k1, k2⟩ := m1 l hgo
          have hb := hbad (.tuple [.own 2 (l.map Span.av), .bool true]) (fun _ => by rw [k2]) fun k q1 q2 => absurd q2 (k1 k q1)
          repeat (first | apply Wp.seqA | apply Wp.skipS | apply Wp.blockS | ((first | apply Wp.regS | apply Wp.condV | apply Wp.reg | apply Wp.condW | apply fin_ret); simp -implicitDefEqProofs (maxSteps := 2000000) (disch := first | exact tt_rfl rfl | omega | (simp only [go_sem] <;> omega) | fail) only [go_sem, show ¬ (i : Int) + 1 < ts.length by omega, hb] <;> try with_reducible rfl) | apply Wp.block | apply Wp.exitS | apply Wp.retS | apply Wp.exit | apply Wp.ret | apply Wp.skip)
          rfl
  · refine lim_by (fn := a25) (k := 3) (res := [.tmp 6]) rfl rfl rfl (by simp -implicitDefEqProofs (maxSteps := 2000000) (disch := first | exact tt_rfl rfl | omega | (simp only [go_sem] <;> omega) | fail) only [go_sem]) ?_
    simp -implicitDefEqProofs (maxSteps := 2000000) (disch := first | exact tt_rfl rfl | omega | (simp only [go_sem] <;> omega) | fail) only [go_sem]
    repeat (first | apply Wp.seqA | apply Wp.skipS | apply Wp.blockS | ((first | apply Wp.regS | apply Wp.condV | apply Wp.reg | apply Wp.condW | apply fin_ret); simp -implicitDefEqProofs (maxSteps := 2000000) (disch := first | exact tt_rfl rfl | omega | (simp only [go_sem] <;> omega) | fail) only [go_sem, hp, h0] <;> try with_reducible rfl) | apply Wp.block | apply Wp.exitS | apply Wp.retS | apply Wp.exit | apply Wp.ret | apply Wp.skip)
end Go.Abs
