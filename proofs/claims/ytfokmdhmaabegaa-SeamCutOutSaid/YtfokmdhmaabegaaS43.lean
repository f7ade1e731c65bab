/-
  Chapter 7, cutting: the contract of the reference's Pieces.
-/
import Derived.Test.YtfokmdhmaabegaaS42
set_option linter.all false
namespace Go.Abs
set_option maxRecDepth 10000
set_option maxHeartbeats 4000000

@[go_sem] theorem take_allP {α : Type} {k : Nat} {l : List α} (h : l.length ≤ k) : l.take k = l := List.take_of_length_le h

theorem grp_same {l : List Cut} {a c i : Nat} {h : Nat → Nat} (hi : i < c) : ((List.range c).map (grp l a h)).set i (.list 2 ((pickL l (fib a h i ++ [a])).map Cut.av)) = (List.range c).map (grp l (a + 1) (putH h a i)) := by
  apply List.ext_getElem?
  intro j
  rw [List.getElem?_set]
  simp only [List.length_map, List.length_range]
  by_cases e : i = j
  · subst e
    rw [if_pos rfl, if_pos hi]
    simp [hi, grp, fib_put]
  · rw [if_neg e]
    have e' : ¬ j = i := fun h => e h.symm
    by_cases hj : j < c
    · simp [hj, grp, fib_put, e']
    · simp [hj]
theorem grp_new {l : List Cut} {a c : Nat} {h : Nat → Nat} (hc : ∀ i, i < a → h i < c) : ((List.range c).map (grp l a h) ++ [AV.list 2 []]).set c (.list 2 ((pickL l (fib a h c ++ [a])).map Cut.av)) = (List.range (c + 1)).map (grp l (a + 1) (putH h a c)) := by
  have hl : ((List.range c).map (grp l a h)).length = c := by simp
  rw [List.range_succ, List.map_append, List.set_append_right _ _ (by omega), hl, Nat.sub_self]
  congr 1
  · apply List.map_congr_left
    intro j hj
    have := List.mem_range.1 hj
    simp [grp, fib_put, show ¬ j = c by omega]
  · simp [grp, fib_put]

theorem refPieces_ok (r picks : Int) (l : List Cut) (hv : CutsOk r [] l) (hp : 0 ≤ picks ∧ picks ≤ 100000) : ∀ (k a c : Nat) (h : Nat → Nat), a + k = l.length → c ≤ a → (∀ i, i < a → h i < c) → (∀ j, j < c → Feas r [] l picks fun i => decide (i < a ∧ h i = j)) →
    ∃ q, lim F 47 [iv r, iv picks, .list 2 (l.map Cut.av), iv a, .list 1 ((List.range c).map (grp l a h))] = some q ∧ ∃ v, q = (iv v, []) ∧ LeastOr (Onto l.length (Feas r [] l picks) a c h) v := by
  have hmono := fun p q hh => feas_mono hv (m := picks) (p := p) (q := q) hh
  have hl8 := hv.ll
  intro k
  induction k with
  | zero =>
    intro a c h ha hca hc hP
    obtain rfl : a = l.length := by omega
    refine ⟨(iv c, []), ?_, c, rfl, .inr ⟨c, rfl, ext_end hmono hc hP, by omega, fun m' h' => h'.1⟩⟩
    refine lim_by (fn := a47) (k := 5) (res := [.tmp 10]) rfl rfl rfl (by simp -implicitDefEqProofs (maxSteps := 2000000) (disch := first | exact tt_rfl rfl | omega | (simp only [go_sem] <;> omega) | fail) only [go_sem]) ?_
    simp -implicitDefEqProofs (maxSteps := 2000000) (disch := first | exact tt_rfl rfl | omega | (simp only [go_sem] <;> omega) | fail) only [go_sem]
    repeat (first | apply Wp.seqA | apply Wp.skipS | apply Wp.blockS | ((first | apply Wp.regS | apply Wp.condV | apply Wp.reg | apply Wp.condW | apply fin_ret); simp -implicitDefEqProofs (maxSteps := 2000000) (disch := first | exact tt_rfl rfl | omega | (simp only [go_sem] <;> omega) | fail) only [go_sem] <;> try with_reducible rfl) | apply Wp.block | apply Wp.exitS | apply Wp.retS | apply Wp.exit | apply Wp.ret | apply Wp.skip)
  | succ k ih =>
    intro a c h ha hca hc hP
    have hal : a < l.length := by omega
    have hx0 : l[a]? = some (cutAt l a) := cutAt_eq hal
    -- a branch: so many picks are needed for the piece; and what comes behind
    have hbr : ∀ i, i ≤ c → ∃ y, Best r [] l (fun t => decide (t ∈ fib a h i ++ [a])) 0 y ∧
        lim F 44 [iv r, .list 1 [], .list 2 ((pickL l (fib a h i ++ [a])).map Cut.av), .borS 1 (List.replicate (pickL l (fib a h i ++ [a])).length (.bool false)), iv 0] = some (iv y, [.borS 1 (List.replicate (pickL l (fib a h i ++ [a])).length (.bool false))]) := by
      intro i hi
      obtain ⟨y, hy⟩ := best_exists hv _ (fun t => decide (t ∈ fib a h i ++ [a])) 0 rfl
      have hn : (fib a h i ++ [a]).Nodup := by
        rw [List.nodup_append]
        refine ⟨fib_nodup _ _ _, by simp, fun x hx z hz => ?_⟩
        have := (fib_mem.1 hx).1
        rw [List.mem_singleton.1 hz]; omega
      have hm : ∀ i' ∈ fib a h i ++ [a], i' < l.length := by
        intro i' hi'
        rcases List.mem_append.1 hi' with h1 | h1
        · have := (fib_mem.1 h1).1; omega
        · rw [List.mem_singleton.1 h1]; exact hal
      have hb := pick_best hn hm hy
      have hv' := pick_ok hv hn hm
      refine ⟨y, hy, ?_⟩
      have hN := Need_ok r [] (pickL l (fib a h i ++ [a])) hv' _ (List.replicate (pickL l (fib a h i ++ [a])).length false) 0 y (by simp) rfl (Int.le_refl _) (by
        have h1 := List.length_filter_le (isFree (List.replicate (pickL l (fib a h i ++ [a])).length false)) (List.range (pickL l (fib a h i ++ [a])).length)
        rw [List.length_range] at h1
        have := hv'.ll
        omega) (best_congr (fun j hj => by simp [isFree, List.getElem?_replicate, hj]) hb)
      simpa [List.map_replicate] using hN
    have hfe : ∀ i y, Best r [] l (fun t => decide (t ∈ fib a h i ++ [a])) 0 y → (Feas r [] l picks (fun t => decide (t < a + 1 ∧ putH h a i t = i)) ↔ y ≤ picks) := by
      intro i y hy
      refine feas_iff (best_congr (fun t _ => ?_) hy)
      apply decide_eq_decide.2
      rw [List.mem_append, fib_mem, List.mem_singleton]
      unfold putH
      constructor
      · rintro (⟨h1, h2⟩ | rfl)
        · exact ⟨by omega, by rw [if_neg (by omega)]; exact h2⟩
        · exact ⟨by omega, by rw [if_pos rfl]⟩
      · rintro ⟨h1, h2⟩
        by_cases e : t = a
        · exact .inr e
        · rw [if_neg e] at h2; exact .inl ⟨by omega, h2⟩
    have hrec : ∀ i, i ≤ c → ∀ y, Best r [] l (fun t => decide (t ∈ fib a h i ++ [a])) 0 y → y ≤ picks →
        ∃ v, lim F 47 [iv r, iv picks, .list 2 (l.map Cut.av), iv ((a : Int) + 1), .list 1 ((List.range (if i = c then c + 1 else c)).map (grp l (a + 1) (putH h a i)))] = some (iv v, []) ∧ LeastOr (Onto l.length (Feas r [] l picks) (a + 1) (if i = c then c + 1 else c) (putH h a i)) v := by
      intro i hi y hy hyp
      obtain ⟨q, h1, v, rfl, h2⟩ := ih (a + 1) (if i = c then c + 1 else c) (putH h a i) (by omega) (by split <;> omega) (fun t ht => by
        unfold putH
        split
        · split <;> omega
        · have := hc t (by omega); split <;> omega) (fun j hj => by
        by_cases e : j = i
        · subst e; exact (hfe j y hy).2 hyp
        · refine feas_mono hv (fun t _ ht => ?_) (hP j (by split at hj <;> omega))
          have ht := of_decide_eq_true ht
          obtain ⟨t1, t2⟩ := ht
          apply decide_eq_true
          unfold putH at t2
          split at t2
          · omega
          · exact ⟨by omega, t2⟩)
      exact ⟨v, h1, h2⟩
    have hno : ∀ i, i ≤ c → ∀ y, Best r [] l (fun t => decide (t ∈ fib a h i ++ [a])) 0 y → ¬ y ≤ picks → ∀ m, ¬ Onto l.length (Feas r [] l picks) (a + 1) (if i = c then c + 1 else c) (putH h a i) m := by
      intro i hi y hy hyp m hx
      exact hyp ((hfe i y hy).1 (ext_part hmono (by omega) hx (by split <;> omega)))
    have hdn : ∀ m, Onto l.length (Feas r [] l picks) a c h m ↔ ∃ i, i < c + 1 ∧ Onto l.length (Feas r [] l picks) (a + 1) (if i = c then c + 1 else c) (putH h a i) m := by
      intro m
      constructor
      · intro hx
        obtain ⟨i, h1, h2⟩ := ext_down hmono hal hc hx
        exact ⟨i, by omega, h2⟩
      · rintro ⟨i, h1, h2⟩
        exact ext_up hmono (by omega) h2
    generalize hE : (fun i m => Onto l.length (Feas r [] l picks) (a + 1) (if i = c then c + 1 else c) (putH h a i) m) = E at *
    have hE' : ∀ i m, Onto l.length (Feas r [] l picks) (a + 1) (if i = c then c + 1 else c) (putH h a i) m ↔ E i m := fun i m => by rw [← hE]
    have hQ : ∀ i, i ≤ c → ∀ y, Best r [] l (fun t => decide (t ∈ fib a h i ++ [a])) 0 y → ∀ b, LeastOr (fun m => ∃ i', i' < i ∧ E i' m) b → (¬ y ≤ picks → LeastOr (fun m => ∃ i', i' < i + 1 ∧ E i' m) b) ∧ (∀ v, LeastOr (E i) v → LeastOr (fun m => ∃ i', i' < i + 1 ∧ E i' m) (min b v)) := by
      intro i hi y hy b hb
      have hs : ∀ m, ((∃ i', i' < i ∧ E i' m) ∨ E i m) ↔ ∃ i', i' < i + 1 ∧ E i' m := by
        intro m
        constructor
        · rintro (⟨i', h1, h2⟩ | h2)
          · exact ⟨i', by omega, h2⟩
          · exact ⟨i, by omega, h2⟩
        · rintro ⟨i', h1, h2⟩
          by_cases e : i' = i
          · subst e; exact .inr h2
          · exact .inl ⟨i', by omega, h2⟩
      exact ⟨fun hn => least_congr (least_none hb fun m hm => hno i hi y hy hn m ((hE' i m).2 hm)) hs, fun v hv => least_congr (least_or hb hv) hs⟩
    clear ih hfe hno hP
    refine lim_ex (fn := a47) (k := 5) (res := [.tmp 10]) rfl rfl rfl (by simp -implicitDefEqProofs (maxSteps := 2000000) (disch := first | exact tt_rfl rfl | omega | (simp only [go_sem] <;> omega) | fail) only [go_sem]) ?_
    simp -implicitDefEqProofs (maxSteps := 2000000) (disch := first | exact tt_rfl rfl | omega | (simp only [go_sem] <;> omega) | fail) only [go_sem]
    repeat (first | apply Wp.seqA | apply Wp.skipS | apply Wp.blockS | ((first | apply Wp.regS | apply Wp.condV | apply Wp.reg | apply Wp.condW | apply fin_ret); simp -implicitDefEqProofs (maxSteps := 2000000) (disch := first | exact tt_rfl rfl | omega | (simp only [go_sem] <;> omega) | fail) only [go_sem, show ¬ (a : Int) = l.length by omega] <;> try with_reducible rfl) | apply Wp.block | apply Wp.exitS | apply Wp.retS | apply Wp.exit | apply Wp.ret | apply Wp.skip)
    apply Wp.loopN (c + 1) (fun i fr => ∃ b, fr = ⟨[(0, iv r), (1, iv picks), (2, .list 2 (l.map Cut.av)), (3, iv a), (4, .list 1 ((List.range c).map (grp l a h))), (11, iv b), (12, iv i)], [], [], 1000000⟩ ∧ LeastOr (fun m => ∃ i', i' < i ∧ E i' m) b)
    · simp -implicitDefEqProofs (maxSteps := 2000000) (disch := first | exact tt_rfl rfl | omega | (simp only [go_sem] <;> omega) | fail) only [go_sem, norm_eq, Ok.some]
      exact ⟨1099511627776, rfl, .inl ⟨rfl, by rintro m ⟨i', h1, _⟩; omega⟩⟩
    rintro i fr hi ⟨b, rfl, hb⟩
    by_cases hic : i ≤ c
    · obtain ⟨y, hy, hN⟩ := hbr i hic
      obtain ⟨q1, q2⟩ := hQ i hic y hy b hb
      have hbb := hb.bound
      have hr := hrec i hic y hy
      have hyb := best_bound hv (Int.le_refl 0) hy
      clear hbr hrec hQ hb
      by_cases e : i = c
      · subst e
        have hnew := grp_new (l := l) hc
        rw [if_pos rfl] at hr
        have z0 : pickL l (fib a h i) = [] := by
          have : fib a h i = [] := by
            apply List.filter_eq_nil_iff.2
            intro t ht
            have := hc t (List.mem_range.1 ht)
            simp; omega
          rw [this]; rfl
        have x1 : ((List.range i).map (grp l a h) ++ [.list 2 []])[i]? = some (.list 2 []) := by simp
        have x2 : ((List.range (i + 1)).map (grp l (a + 1) (putH h a i)))[i]? = some (.list 2 ((pickL l (fib a h i ++ [a])).map Cut.av)) := by simp [grp, fib_put]
        have x3 : (pickL l (fib a h i ++ [a])).map Cut.av = [.agg [iv (cutAt l a).b, iv (cutAt l a).p]] := by
          have e : pickL l (fib a h i ++ [a]) = pickL l (fib a h i) ++ [cutAt l a] := by simp [pickL]
          rw [e, z0]; rfl
        have x7 : (pickL l (fib a h i ++ [a])).length = 1 := by
          have e : pickL l (fib a h i ++ [a]) = pickL l (fib a h i) ++ [cutAt l a] := by simp [pickL]
          rw [e, z0]; rfl
        rw [x3] at hnew x2
        rw [x3, x7, List.replicate_one] at hN
        by_cases hyp : y ≤ picks
        · obtain ⟨v, hr, hlv⟩ := hr hyp
          have hvb := hlv.bound
          repeat (first | apply Wp.seqA | apply Wp.skipS | apply Wp.blockS | ((first | apply Wp.regS | apply Wp.condV | apply Wp.reg | apply Wp.condW | apply fin_ret); simp -implicitDefEqProofs (maxSteps := 2000000) (disch := first | exact tt_rfl rfl | omega | (simp only [go_sem] <;> omega) | fail) only [go_sem, Int.le_refl, x1, hnew, x2, hx0, List.getElem?_map, Option.map_some, Cut.av.eq_1, hN, hyp, hr] <;> try with_reducible rfl) | apply Wp.block | apply Wp.exitS | apply Wp.retS | apply Wp.exit | apply Wp.ret | apply Wp.skip)
          apply round_next
          · simp -implicitDefEqProofs (maxSteps := 2000000) (disch := first | exact tt_rfl rfl | omega | (simp only [go_sem] <;> omega) | fail) only [go_sem, norm_eq, Ok.some]; with_reducible rfl
          exact ⟨by omega, min b v, by simp, q2 v (least_congr hlv fun m => by have := hE' i m; rw [if_pos rfl] at this; exact this)⟩
        · repeat (first | apply Wp.seqA | apply Wp.skipS | apply Wp.blockS | ((first | apply Wp.regS | apply Wp.condV | apply Wp.reg | apply Wp.condW | apply fin_ret); simp -implicitDefEqProofs (maxSteps := 2000000) (disch := first | exact tt_rfl rfl | omega | (simp only [go_sem] <;> omega) | fail) only [go_sem, Int.le_refl, x1, hnew, x2, hx0, List.getElem?_map, Option.map_some, Cut.av.eq_1, hN, hyp] <;> try with_reducible rfl) | apply Wp.block | apply Wp.exitS | apply Wp.retS | apply Wp.exit | apply Wp.ret | apply Wp.skip)
          apply round_next
          · simp -implicitDefEqProofs (maxSteps := 2000000) (disch := first | exact tt_rfl rfl | omega | (simp only [go_sem] <;> omega) | fail) only [go_sem, norm_eq, Ok.some]; with_reducible rfl
          exact ⟨by omega, b, by simp, q1 hyp⟩
      · have hlt : i < c := by omega
        have hsame := grp_same (l := l) (a := a) (h := h) hlt
        rw [if_neg e] at hr
        have x1 : ((List.range c).map (grp l a h))[i]? = some (.list 2 ((pickL l (fib a h i)).map Cut.av)) := by simp [hlt, grp]
        have x2 : ((List.range c).map (grp l (a + 1) (putH h a i)))[i]? = some (.list 2 ((pickL l (fib a h i ++ [a])).map Cut.av)) := by simp [hlt, grp, fib_put]
        have x3 : (pickL l (fib a h i)).map Cut.av ++ [.agg [iv (cutAt l a).b, iv (cutAt l a).p]] = (pickL l (fib a h i ++ [a])).map Cut.av := by simp [pickL, Cut.av]
        have x4 : (i : Int) ≤ c := by omega
        have x5 : ¬ (i : Int) = c := by omega
        have x6 : ((pickL l (fib a h i ++ [a])).map Cut.av).take ((pickL l (fib a h i)).length + 1) = (pickL l (fib a h i ++ [a])).map Cut.av := List.take_of_length_le (by simp [pickL])
        have x7 : (pickL l (fib a h i ++ [a])).length = (pickL l (fib a h i)).length + 1 := by simp [pickL]
        have x8 : (pickL l (fib a h i)).length ≤ a := by
          have := List.length_filter_le (fun t => decide (h t = i)) (List.range a)
          rw [List.length_range] at this
          simpa [pickL, fib] using this
        have x9 : ¬ (pickL l (fib a h i ++ [a])).length = 0 := by omega
        have hpl : ∀ N, (List.replicate N (AV.bool false)).all AV.plain = true := fun N => by
          rw [List.all_eq_true]
          intro z hz
          rw [(List.mem_replicate.1 hz).2]; rfl
        by_cases hyp : y ≤ picks
        · obtain ⟨v, hr, hlv⟩ := hr hyp
          have hvb := hlv.bound
          repeat (first | apply Wp.seqA | apply Wp.skipS | apply Wp.blockS | ((first | apply Wp.regS | apply Wp.condV | apply Wp.reg | apply Wp.condW | apply fin_ret); simp -implicitDefEqProofs (maxSteps := 2000000) (disch := first | exact tt_rfl rfl | omega | (simp only [go_sem] <;> omega) | fail) only [go_sem, x9, hpl, x4, x5, x1, x3, x6, hsame, x2, hx0, List.getElem?_map, Option.map_some, Cut.av.eq_1, hN, hyp, hr] <;> try with_reducible rfl) | apply Wp.block | apply Wp.exitS | apply Wp.retS | apply Wp.exit | apply Wp.ret | apply Wp.skip)
          apply round_next
          · simp -implicitDefEqProofs (maxSteps := 2000000) (disch := first | exact tt_rfl rfl | omega | (simp only [go_sem] <;> omega) | fail) only [go_sem, norm_eq, Ok.some]; with_reducible rfl
          exact ⟨by omega, min b v, by simp, q2 v (least_congr hlv fun m => by have := hE' i m; rw [if_neg e] at this; exact this)⟩
        · repeat (first | apply Wp.seqA | apply Wp.skipS | apply Wp.blockS | ((first | apply Wp.regS | apply Wp.condV | apply Wp.reg | apply Wp.condW | apply fin_ret); simp -implicitDefEqProofs (maxSteps := 2000000) (disch := first | exact tt_rfl rfl | omega | (simp only [go_sem] <;> omega) | fail) only [go_sem, x9, hpl, x4, x5, x1, x3, x6, hsame, x2, hx0, List.getElem?_map, Option.map_some, Cut.av.eq_1, hN, hyp] <;> try with_reducible rfl) | apply Wp.block | apply Wp.exitS | apply Wp.retS | apply Wp.exit | apply Wp.ret | apply Wp.skip)
          apply round_next
          · simp -implicitDefEqProofs (maxSteps := 2000000) (disch := first | exact tt_rfl rfl | omega | (simp only [go_sem] <;> omega) | fail) only [go_sem, norm_eq, Ok.some]; with_reducible rfl
          exact ⟨by omega, b, by simp, q1 hyp⟩
    · obtain rfl : i = c + 1 := by omega
      repeat (first | apply Wp.seqA | apply Wp.skipS | apply Wp.blockS | ((first | apply Wp.regS | apply Wp.condV | apply Wp.reg | apply Wp.condW | apply fin_ret); simp -implicitDefEqProofs (maxSteps := 2000000) (disch := first | exact tt_rfl rfl | omega | (simp only [go_sem] <;> omega) | fail) only [go_sem, show ¬ ((c + 1 : Nat) : Int) ≤ c by omega] <;> try with_reducible rfl) | apply Wp.block | apply Wp.exitS | apply Wp.retS | apply Wp.exit | apply Wp.ret | apply Wp.skip)
      refine finp_ret (r := (iv b, [])) ?_ ⟨b, rfl, least_congr hb fun m => ⟨fun ⟨i', h1, h2⟩ => (hdn m).2 ⟨i', h1, (hE' i' m).2 h2⟩, fun hx => by
        obtain ⟨i', h1, h2⟩ := (hdn m).1 hx
        exact ⟨i', h1, (hE' i' m).1 h2⟩⟩⟩
      simp -implicitDefEqProofs (maxSteps := 2000000) (disch := first | exact tt_rfl rfl | omega | (simp only [go_sem] <;> omega) | fail) only [go_sem]
end Go.Abs
