/-
  Chapter 7, without the reference: what Ahead returns for lengths of bytes.
-/
import Derived.Test.YtfokmdhmaabegaaS33
set_option linter.all false
namespace Go.Abs
set_option maxRecDepth 10000
set_option maxHeartbeats 1000000

structure AheadOk (a b : List Part) (ts : List Int) : Prop where
  e : openE a b ts = 0
  good : ∀ i, i < a.length → ¬ BadAt (widthsL a) (widthsL b) ts i
  list : openL a b ts = (List.range (a.length + 1)).map (outR (widthsL a) (widthsL b) ts a.length)
  right : ∀ s ∈ openL a b ts, RightAt s
  first : at' (openL a b ts) 0 = ⟨0, 0⟩
theorem AheadOk.len {a b : List Part} {ts : List Int} (h : AheadOk a b ts) : (openL a b ts).length = a.length + 1 := by rw [h.list]; simp
theorem AheadOk.at {a b : List Part} {ts : List Int} (h : AheadOk a b ts) {j : Nat} (hj : j ≤ a.length) : at' (openL a b ts) j = outR (widthsL a) (widthsL b) ts a.length j := by
  rw [h.list]; simp [at', show j < a.length + 1 by omega]

theorem ones_wlen {a : List Part} (ha : Ones a) : (widthsL a).length = a.length := by rw [ha.widths]; simp
theorem ones_ahead {a b : List Part} (ha : Ones a) (hb : Ones b) (hab : a.length = b.length) {ts : List Int} (h1 : ∀ t ∈ ts, 1 ≤ t ∧ t ≤ (a.length : Int)) (h2 : incL ts = true) : AheadOk a b ts ∨ (openE a b ts = 9 ∧ openL a b ts = []) := by
  have p0 := ones_pair ha hb hab
  have hq := pairOk (ts := ts) p0
  have hwl := ones_wlen ha
  have hall : (ts.all fun t => decide (1 ≤ t ∧ t ≤ ((pairL a b).more.length : Int))) = true := by
    rw [List.all_eq_true]
    intro t ht
    have := h1 t ht
    rw [hq.pa]; simp only [decide_eq_true_eq, hq.lm]; omega
  cases hgo : aheadGo (pairL a b).more 0 ts with
  | none =>
    have e : openE a b ts = 9 := by
      unfold openE
      rw [if_neg (by rw [p0]; simp), if_neg (by rw [hall]; simp), if_neg (by rw [h2]; simp), if_pos (by rw [hgo]; rfl)]
    exact .inr ⟨e, by unfold openL; rw [if_neg (by omega)]⟩
  | some l =>
    have e : openE a b ts = 0 := by
      unfold openE
      rw [if_neg (by rw [p0]; simp), if_neg (by rw [hall]; simp), if_neg (by rw [h2]; simp), if_neg (by rw [hgo]; simp)]
    obtain ⟨_, _, _, _, hg, hl⟩ := openE_zero e
    rw [hwl] at hg hl
    have hm := ones_more ha hb hab
    have hsp := fun j (hj : j ≤ a.length) => out_span (ts := ts) hwl (hq.lb.trans hwl) hq.sm hq.om hg hj
    have lm := hq.lm
    refine .inl ⟨e, hg, hl, fun s hs => ?_, ?_⟩
    · rw [hl] at hs
      obtain ⟨j, hj, rfl⟩ := List.mem_map.1 hs
      have hj := List.mem_range.1 hj
      obtain ⟨k1, f, k2, k3, k4⟩ := hsp j (by omega)
      have hd := ones_dS hm f (j - f) (by omega)
      rw [show f + (j - f) = j by omega] at hd
      have := ha.len
      exact ⟨k1, by omega, by omega⟩
    · rw [hl]
      have := out_mark (ts := ts) hwl (hq.lb.trans hwl) (Nat.zero_le _) (.inl rfl)
      simp [at', this]

theorem edges_ts {m n : Nat} : (∀ t ∈ edgesL m n, 1 ≤ t ∧ t ≤ (n : Int)) ∧ incL (edgesL m n) = true := edges_up m n

/-- two lengths that are the same -/
theorem same_sym {w : List Span} : ∀ (k f : Nat), f + k ≤ w.length → (dS (moreL w w) f (f + k)).lo = 0 - (dS (moreL w w) f (f + k)).hi
  | 0, f, _ => by simp [dS]
  | k + 1, f, h => by
    have ih := same_sym (w := w) k f (by omega)
    have hp := pre_more (wa := w) (wb := w) rfl (i := f + k) (by omega)
    simp only [dS, ← Nat.add_assoc, hp] at ih ⊢
    omega
theorem same_dS {w : List Span} {f e : Nat} (h : f ≤ e) (he : e ≤ w.length) : (dS (moreL w w) f e).lo = 0 - (dS (moreL w w) f e).hi := by
  have := same_sym (w := w) (e - f) f (by omega)
  rwa [show f + (e - f) = e by omega] at this
theorem same_ahead {a : List Part} (ha : Ones a) {ts : List Int} (h1 : ∀ t ∈ ts, 1 ≤ t ∧ t ≤ (a.length : Int)) (h2 : incL ts = true) : AheadOk a a ts ∧ ∀ j, j ≤ a.length → (at' (openL a a ts) j).lo = 0 - (at' (openL a a ts) j).hi := by
  have hwl := ones_wlen ha
  have p0 := ones_pair ha ha rfl
  have hq := pairOk (ts := ts) p0
  have hok : AheadOk a a ts := by
    rcases ones_ahead ha ha rfl h1 h2 with h | ⟨h, _⟩
    · exact h
    · exfalso
      have hall : (ts.all fun t => decide (1 ≤ t ∧ t ≤ ((pairL a a).more.length : Int))) = true := by
        rw [List.all_eq_true]
        intro t ht
        have := h1 t ht
        rw [hq.pa]; simp only [decide_eq_true_eq, hq.lm]; omega
      cases hgo : aheadGo (pairL a a).more 0 ts with
      | some l =>
        unfold openE at h
        rw [if_neg (by rw [p0]; simp), if_neg (by rw [hall]; simp), if_neg (by rw [h2]; simp), if_neg (by rw [hgo]; simp)] at h
        omega
      | none =>
        obtain ⟨i, hi, hb⟩ := (ahead_ref p0 hall h2).2 hgo
        -- the first mark that is not met: none, since what is gained between marks is as much as what is lost
        have hfo : ∀ i, i ≤ a.length → (fo (widthsL a) (widthsL a) ts i).lo = 0 - (fo (widthsL a) (widthsL a) ts i).hi ∧ (fo (widthsL a) (widthsL a) ts i).lo ≤ 0 := by
          intro i
          induction i with
          | zero => intro _; simp [fo]
          | succ i ih =>
            intro hi
            have ih := ih (by omega)
            have ho := hq.oa i (by omega)
            simp only [fo, foR]
            split <;> simp only [] <;> omega
        have hf := hfo i (by omega)
        have ho := hq.oa i hi
        apply hb.2
        unfold foR Span.Has0
        dsimp only
        omega
  refine ⟨hok, fun j hj => ?_⟩
  rw [hok.at hj]
  obtain ⟨f, k1, k2, k3⟩ := last_mark ts j
  by_cases e : f = j
  · subst e
    rw [out_mark hwl hwl hj k2]; simp
  · have s1 := same_dS (w := widthsL a) (f := f) (e := j) k1 (by omega)
    rcases next_mark ts a.length (a.length - j) j (by omega) with ⟨t, q1, q2, q3, q4⟩ | q
    · have hjt : j < t := by
        by_cases e2 : j = t
        · subst e2; exact absurd q3 (k3 j (by omega) (Nat.le_refl _))
        · omega
      have s2 := same_dS (w := widthsL a) (f := j) (e := t) (by omega) (by omega)
      rw [out_between hwl hwl k2 (by omega) hjt q2 q3 fun x r1 r2 => by
        by_cases q : x ≤ j
        · exact k3 x r1 q
        · exact q4 x (by omega) r2]
      dsimp only
      omega
    · rw [out_end hwl hwl hq.sm k2 (by omega) hj fun x r1 r2 => by
        by_cases q' : x ≤ j
        · exact k3 x r1 q'
        · exact q x (by omega) r2]
      exact s1

/-- no room -/
def tightP (p : Part) : Part := ⟨p.picks, p.lo, p.lo⟩
theorem ones_tight {a : List Part} (ha : Ones a) : Ones (a.map tightP) := ⟨by rw [List.length_map]; exact ha.len, fun p hp => by
  obtain ⟨q, hq, rfl⟩ := List.mem_map.1 hp
  obtain ⟨⟨h1, h2, h3⟩, h4, h5, h6⟩ := ha.ok q hq
  simp only [tightP, Part.Ok]
  refine ⟨⟨h1, ⟨by omega, by omega⟩, by omega⟩, h4, h5, by omega⟩⟩
theorem tight_zero {a : List Part} (ha : Ones a) {ts : List Int} (h1 : ∀ t ∈ ts, 1 ≤ t ∧ t ≤ (a.length : Int)) (h2 : incL ts = true) : AheadOk (a.map tightP) (a.map tightP) ts ∧ ∀ j, j ≤ a.length → at' (openL (a.map tightP) (a.map tightP) ts) j = ⟨0, 0⟩ := by
  have ht := ones_tight ha
  have hlen : (a.map tightP).length = a.length := List.length_map _
  obtain ⟨hok, hsym⟩ := same_ahead ht (ts := ts) (by rw [hlen]; exact h1) h2
  refine ⟨hok, fun j hj => ?_⟩
  have hwl := ones_wlen ht
  have p0 := ones_pair ht ht rfl
  have hq := pairOk (ts := ts) p0
  have hr := hsym j (by omega)
  obtain ⟨_, f, k2, k3, k4⟩ := out_span (ts := ts) hwl hwl hq.sm hq.om hok.good (j := j) (by omega)
  rw [hok.at (by omega)] at hr ⊢
  have hz : ∀ k, k ≤ a.length → (pre (moreL (widthsL (a.map tightP)) (widthsL (a.map tightP))) k).lo = 0 ∧ (pre (moreL (widthsL (a.map tightP)) (widthsL (a.map tightP))) k).hi = 0 := by
    intro k
    induction k with
    | zero => intro _; simp [pre]
    | succ k ih =>
      intro hk
      have ih := ih (by omega)
      rw [pre_more rfl (by omega)]
      have e : at' (widthsL (a.map tightP)) k = (tightP a[k]).w := by
        rw [ht.widths]; simp [at', show k < a.length by omega]
      rw [e]
      simp only [tightP, Part.w]
      omega
  have z1 := hz j hj
  have z2 := hz f (by omega)
  simp only [dS] at k3 k4
  generalize outR (widthsL (a.map tightP)) (widthsL (a.map tightP)) ts (a.map tightP).length j = s at *
  obtain ⟨lo, hi⟩ := s
  simp only [Span.mk.injEq] at *
  omega
end Go.Abs
