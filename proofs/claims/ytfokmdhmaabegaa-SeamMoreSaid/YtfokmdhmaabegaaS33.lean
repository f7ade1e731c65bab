/-
  Chapter 7, without the reference: the lengths of bytes are valid; right.
-/
import Derived.Test.YtfokmdhmaabegaaS31
import Derived.Test.YtfokmdhmaabegaaS32
set_option linter.all false
namespace Go.Abs
set_option maxRecDepth 10000
set_option maxHeartbeats 1000000

theorem pa_ok (q : Quad) : q.pa.Ok ∧ q.pa.picks = 1 ∧ 200 ≤ q.pa.lo ∧ q.pa.hi ≤ 234 := by
  have h1 : q.a % 20 < 20 := Nat.mod_lt _ (by omega)
  have h2 : q.c % 16 < 16 := Nat.mod_lt _ (by omega)
  unfold Quad.pa Part.Ok; dsimp only; omega
theorem pb_ok (q : Quad) : q.pb.Ok ∧ q.pb.picks = 1 ∧ 200 ≤ q.pb.lo ∧ q.pb.hi ≤ 234 := by
  have h1 : q.b % 20 < 20 := Nat.mod_lt _ (by omega)
  have h2 : q.d % 16 < 16 := Nat.mod_lt _ (by omega)
  unfold Quad.pb Part.Ok; dsimp only; omega

/-- lengths of parts of one pick each, as the bytes make them -/
structure Ones (l : List Part) : Prop where
  len : 1 ≤ l.length ∧ l.length ≤ 12
  ok : ∀ p ∈ l, p.Ok ∧ p.picks = 1 ∧ 190 ≤ p.lo ∧ p.hi ≤ 245
theorem ones_a (x : Cloth) : Ones (x.qs.map Quad.pa) := ⟨by rw [List.length_map]; exact qs_len x, fun p hp => by
  obtain ⟨q, _, rfl⟩ := List.mem_map.1 hp
  have := pa_ok q
  exact ⟨this.1, this.2.1, by omega, by omega⟩⟩
theorem ones_b (x : Cloth) : Ones (x.qs.map Quad.pb) := ⟨by rw [List.length_map]; exact qs_len x, fun p hp => by
  obtain ⟨q, _, rfl⟩ := List.mem_map.1 hp
  have := pb_ok q
  exact ⟨this.1, this.2.1, by omega, by omega⟩⟩
theorem ones_picks : ∀ {l : List Part}, (∀ p ∈ l, p.picks = 1) → picksL l = l.length
  | [], _ => rfl
  | p :: l, h => by
    have := ones_picks (l := l) fun q hq => h q (List.mem_cons_of_mem _ hq)
    have := h p (by simp)
    simp only [picksL, List.length_cons]; omega
theorem ones_widths : ∀ {l : List Part}, (∀ p ∈ l, p.picks = 1) → widthsL l = l.map Part.w
  | [], _ => rfl
  | p :: l, h => by
    have h1 := ones_widths (l := l) fun q hq => h q (List.mem_cons_of_mem _ hq)
    have h2 := h p (by simp)
    simp [widthsL, h1, h2]
theorem Ones.check {l : List Part} (h : Ones l) : checkL l = 0 := by
  have hp := ones_picks (l := l) fun p hp => (h.ok p hp).2.1
  have hl := h.len
  unfold checkL
  rw [if_neg (by omega), if_neg (by omega), if_neg, if_neg (by omega)]
  rw [Bool.not_eq_true, List.any_eq_false]
  intro p hp
  simp [(h.ok p hp).1]
theorem Ones.widths {l : List Part} (h : Ones l) : widthsL l = l.map Part.w := ones_widths fun p hp => (h.ok p hp).2.1
theorem ones_pair {a b : List Part} (ha : Ones a) (hb : Ones b) (hab : a.length = b.length) : (pairL a b).e = 0 := by
  have h1 := ones_picks (l := a) fun p hp => (ha.ok p hp).2.1
  have h2 := ones_picks (l := b) fun p hp => (hb.ok p hp).2.1
  have : picksL a = picksL b := by omega
  simp [pairL, ha.check, hb.check, this]
/-- what one pick can be wider than the other -/
theorem ones_more {a b : List Part} (ha : Ones a) (hb : Ones b) (hab : a.length = b.length) (i : Nat) : -55 ≤ (at' (moreL (widthsL a) (widthsL b)) i).lo ∧ (at' (moreL (widthsL a) (widthsL b)) i).hi ≤ 55 := by
  by_cases h : i < a.length
  · have hl : (widthsL a).length = (widthsL b).length := by rw [ha.widths, hb.widths]; simp [hab]
    have h1 := more_at hl (i := i) (by rw [ha.widths]; simpa using h)
    have e : at' (moreL (widthsL a) (widthsL b)) i = ⟨(at' (widthsL a) i).lo - (at' (widthsL b) i).hi, (at' (widthsL a) i).hi - (at' (widthsL b) i).lo⟩ := by
      unfold at' at h1 ⊢; rw [h1]; rfl
    have ea : at' (widthsL a) i = a[i].w := by
      rw [ha.widths]; simp [at', h]
    have eb : at' (widthsL b) i = (b[i]'(by omega)).w := by
      rw [hb.widths]; simp [at', show i < b.length by omega]
    have k1 := ha.ok a[i] (List.getElem_mem h)
    have k2 := hb.ok (b[i]'(by omega)) (List.getElem_mem _)
    rw [e, ea, eb]
    simp only [Part.w, Part.Ok] at *
    omega
  · have hl : (moreL (widthsL a) (widthsL b)).length ≤ i := by
      simp only [moreL, List.length_zipWith, ha.widths, hb.widths, List.length_map]; omega
    simp [at', List.getElem?_eq_none hl]
theorem ones_dS {m : List Span} (hm : ∀ i, -55 ≤ (at' m i).lo ∧ (at' m i).hi ≤ 55) (f : Nat) : ∀ k, f + k ≤ m.length → -55 * (k : Int) ≤ (dS m f (f + k)).lo ∧ (dS m f (f + k)).hi ≤ 55 * k
  | 0, _ => by simp [dS]
  | k + 1, h => by
    have ih := ones_dS hm f k (by omega)
    have := hm (f + k)
    rw [at'_get (by omega)] at this
    simp only [dS, ← Nat.add_assoc, pre_succ (show f + k < m.length by omega), Span.add] at ih ⊢
    omega

/-- the edges of bits are marks -/
theorem edges_up (m : Nat) : ∀ n, (∀ t ∈ edgesL m n, 1 ≤ t ∧ t ≤ n) ∧ incL (edgesL m n) = true
  | 0 => by simp [edgesL, incL]
  | n + 1 => by
    obtain ⟨h1, h2⟩ := edges_up m n
    rw [edges_succ]
    by_cases hb : m.testBit (n + 1) = true
    · rw [if_pos hb]
      refine ⟨fun t ht => ?_, ?_⟩
      · rcases List.mem_append.1 ht with ht | ht
        · have := h1 t ht; omega
        · rw [List.mem_singleton.1 ht]; omega
      · rw [incL_iff] at h2 ⊢
        intro i hi
        rw [List.length_append] at hi
        simp only [List.length_singleton] at hi
        by_cases c : i + 1 < (edgesL m n).length
        · rw [List.getElem_append_left c, List.getElem_append_left (by omega)]; exact h2 i c
        · have c2 : i + 1 = (edgesL m n).length := by omega
          rw [List.getElem_append_left (by omega), List.getElem_append_right (by omega)]
          have := h1 _ (List.getElem_mem (show i < (edgesL m n).length by omega))
          simp [c2]; omega
    · rw [if_neg hb]
      simp only [List.append_nil]
      exact ⟨fun t ht => by have := h1 t ht; omega, h2⟩
theorem edges_mem {m n j : Nat} : (j : Int) ∈ edgesL m n ↔ 1 ≤ j ∧ j ≤ n ∧ m.testBit j = true := by
  unfold edgesL
  simp only [List.mem_map, List.mem_filter, List.mem_range]
  constructor
  · rintro ⟨i, ⟨h1, h2⟩, h3⟩
    have : i + 1 = j := by omega
    subst this
    exact ⟨by omega, by omega, h2⟩
  · rintro ⟨h1, h2, h3⟩
    refine ⟨j - 1, ⟨by omega, by rw [show j - 1 + 1 = j by omega]; exact h3⟩, by omega⟩

abbrev RightAt (s : Span) : Prop := s.lo ≤ s.hi ∧ -1000 ≤ s.lo ∧ s.hi ≤ 1000
theorem right_ok (l : List Span) (n : Nat) (hl : l.length = n + 1) (hr : ∀ s ∈ l, RightAt s) (h0 : at' l 0 = ⟨0, 0⟩) (hn : n ≤ 1000) : lim F 54 [.list 2 (l.map Span.av), iv (n + 1 : Nat)] = some (.bool true, []) := by
  refine lim_by (fn := a54) (k := 2) (res := [.tmp 4]) rfl rfl rfl (by simp -implicitDefEqProofs (maxSteps := 2000000) (disch := first | exact tt_rfl rfl | omega | (simp only [go_sem] <;> omega) | fail) only [go_sem]) ?_
  simp -implicitDefEqProofs (maxSteps := 2000000) (disch := first | exact tt_rfl rfl | omega | (simp only [go_sem] <;> omega) | fail) only [go_sem]
  repeat (first | apply Wp.seqA | apply Wp.skipS | apply Wp.blockS | ((first | apply Wp.regS | apply Wp.condV | apply Wp.reg | apply Wp.condW | apply fin_ret); simp -implicitDefEqProofs (maxSteps := 2000000) (disch := first | exact tt_rfl rfl | omega | (simp only [go_sem] <;> omega) | fail) only [go_sem] <;> try with_reducible rfl) | apply Wp.block | apply Wp.exitS | apply Wp.retS | apply Wp.exit | apply Wp.ret | apply Wp.skip)
  apply Wp.loopF l.length (fun i => ⟨[(0, .list 2 (l.map Span.av)), (1, iv (n + 1 : Nat)), (5, iv i)], [], [], 1000000⟩) (fun _ => True)
  · simp -implicitDefEqProofs (maxSteps := 2000000) (disch := first | exact tt_rfl rfl | omega | (simp only [go_sem] <;> omega) | fail) only [go_sem, norm_eq, Ok.some]
    try rfl
  · trivial
  intro i hi _
  by_cases h : i < l.length
  · obtain ⟨r1, r2, r3⟩ := hr _ (List.getElem_mem h)
    repeat (first | apply Wp.seqA | apply Wp.skipS | apply Wp.blockS | ((first | apply Wp.regS | apply Wp.condV | apply Wp.reg | apply Wp.condW | apply fin_ret); simp -implicitDefEqProofs (maxSteps := 2000000) (disch := first | exact tt_rfl rfl | omega | (simp only [go_sem] <;> omega) | fail) only [go_sem, h, Int.ofNat_lt, List.getElem?_map, List.getElem?_eq_getElem h, Option.map_some, Span.av.eq_1, show ¬ l[i].hi < l[i].lo by omega, show ¬ l[i].lo < -1000 by omega, show ¬ 1000 < l[i].hi by omega] <;> try with_reducible rfl) | apply Wp.block | apply Wp.exitS | apply Wp.retS | apply Wp.exit | apply Wp.ret | apply Wp.skip)
    apply round_next
    · simp -implicitDefEqProofs (maxSteps := 2000000) (disch := first | exact tt_rfl rfl | omega | (simp only [go_sem] <;> omega) | fail) only [go_sem, norm_eq, Ok.some]; with_reducible rfl
    exact ⟨h, by simp, trivial⟩
  · obtain rfl : i = l.length := by omega
    have hx : l[0]? = some ⟨0, 0⟩ := by rw [← h0]; exact at'_eq (by omega)
    repeat (first | apply Wp.seqA | apply Wp.skipS | apply Wp.blockS | ((first | apply Wp.regS | apply Wp.condV | apply Wp.reg | apply Wp.condW | apply fin_ret); simp -implicitDefEqProofs (maxSteps := 2000000) (disch := first | exact tt_rfl rfl | omega | (simp only [go_sem] <;> omega) | fail) only [go_sem, Int.lt_irrefl, hl, List.getElem?_map, hx, Option.map_some, Span.av.eq_1] <;> try with_reducible rfl) | apply Wp.block | apply Wp.exitS | apply Wp.retS | apply Wp.exit | apply Wp.ret | apply Wp.skip)
    rfl
end Go.Abs
