/-
  Chapter 7: more room: wider parts, fewer marks, lengths exchanged; by the truths that are left. Plain.
-/
import Derived.Test.YtfokmdhmaabegaaS39
set_option linter.all false
namespace Go.Abs
set_option maxRecDepth 10000
set_option maxHeartbeats 1000000

theorem ahT_swap (tA tB : List Int) : ∀ i, ahT tB tA i = - ahT tA tB i
  | 0 => rfl
  | i + 1 => by simp only [ahT, ahT_swap tA tB i]; omega

theorem fits_in {a b : List Part} {n : Nat} (ha : a.length = n) (hb : b.length = n) {t : TruthA} (h : ∀ i (h1 : i < a.length) (h2 : i < b.length), (a[i].lo ≤ atI t.a i ∧ atI t.a i ≤ a[i].hi) ∧ (b[i].lo ≤ atI t.b i ∧ atI t.b i ≤ b[i].hi)) :
    InParts a t.a n ∧ InParts b t.b n := ⟨fun i hi h1 => (h i h1 (by omega)).1, fun i hi h1 => (h i (by omega) h1).2⟩

section
variable {a b a2 b2 : List Part} (ha : Ones a) (hb : Ones b) (hab : a.length = b.length) (ha2 : Ones a2) (hb2 : Ones b2) (hl : a2.length = a.length) (hl2 : b2.length = a.length) {ts ts2 : List Int} (hts : ts.length ≤ 1000)
  (h1 : ∀ t ∈ ts2, 1 ≤ t ∧ t ≤ (a.length : Int)) (h2 : incL ts2 = true) (hok : AheadOk a b ts)
include ha hb hab ha2 hb2 hl hl2 hts h1 h2 hok
theorem spans_in (hT : ∀ tA tB, InParts a tA a.length → InParts b tB a.length → (∀ i : Nat, i ≤ a.length → (i : Int) ∈ ts → ahT tA tB i = 0) → InParts a2 tA a.length ∧ InParts b2 tB a.length ∧ ∀ i : Nat, i ≤ a.length → (i : Int) ∈ ts2 → ahT tA tB i = 0) :
    AheadOk a2 b2 ts2 ∧ ∀ j, j ≤ a.length → (at' (openL a2 b2 ts2) j).lo ≤ (at' (openL a b ts) j).lo ∧ (at' (openL a b ts) j).hi ≤ (at' (openL a2 b2 ts2) j).hi := by
  have key : ∀ j, j ≤ a.length → ∀ v, (at' (openL a b ts) j).lo ≤ v ∧ v ≤ (at' (openL a b ts) j).hi → AheadOk a2 b2 ts2 ∧ (at' (openL a2 b2 ts2) j).lo ≤ v ∧ v ≤ (at' (openL a2 b2 ts2) j).hi := by
    intro j hj v hv
    obtain ⟨u, _, hto⟩ := show_in ha (b := b) hts hok.e hj hv
    obtain ⟨_, _, uf, _⟩ := truthOk_fits ha hb hab hto
    obtain ⟨i1, i2⟩ := fits_in rfl (by omega) uf
    have hm := hto.marks
    rw [ones_wlen ha] at hm
    obtain ⟨q1, q2, q3⟩ := hT u.a u.b i1 i2 hm
    rw [← hl] at h1 q1 q2 q3 hj
    obtain ⟨r1, r2⟩ := truth_ahead ha2 hb2 (by omega) h1 h2 q1 q2 q3
    have := r2 j hj
    rw [hto.edge] at this
    exact ⟨r1, this⟩
  have hr : ∀ j, j ≤ a.length → (at' (openL a b ts) j).lo ≤ (at' (openL a b ts) j).hi := fun j hj => by
    have := hok.len
    exact (hok.right _ (by rw [at'_get (by omega)]; exact List.getElem_mem _)).1
  refine ⟨(key 0 (Nat.zero_le _) _ ⟨Int.le_refl _, hr 0 (Nat.zero_le _)⟩).1, fun j hj => ?_⟩
  have k1 := (key j hj _ ⟨Int.le_refl _, hr j hj⟩).2
  have k2 := (key j hj _ ⟨hr j hj, Int.le_refl _⟩).2
  omega
end

theorem spans_swap {a b : List Part} (ha : Ones a) (hb : Ones b) (hab : a.length = b.length) {ts : List Int} (hts : ts.length ≤ 1000) (h1 : ∀ t ∈ ts, 1 ≤ t ∧ t ≤ (a.length : Int)) (h2 : incL ts = true) (hok : AheadOk a b ts) :
    AheadOk b a ts ∧ ∀ j, j ≤ a.length → (at' (openL b a ts) j).lo ≤ -(at' (openL a b ts) j).hi ∧ -(at' (openL a b ts) j).lo ≤ (at' (openL b a ts) j).hi := by
  have key : ∀ j, j ≤ a.length → ∀ v, (at' (openL a b ts) j).lo ≤ v ∧ v ≤ (at' (openL a b ts) j).hi → AheadOk b a ts ∧ (at' (openL b a ts) j).lo ≤ -v ∧ -v ≤ (at' (openL b a ts) j).hi := by
    intro j hj v hv
    obtain ⟨u, _, hto⟩ := show_in ha (b := b) hts hok.e hj hv
    obtain ⟨_, _, uf, _⟩ := truthOk_fits ha hb hab hto
    obtain ⟨i1, i2⟩ := fits_in rfl (by omega) uf
    have hm := hto.marks
    rw [ones_wlen ha] at hm
    rw [hab] at h1 i1 i2 hm hj
    obtain ⟨r1, r2⟩ := truth_ahead hb ha (by omega) h1 h2 i2 i1 (fun i q1 q2 => by rw [ahT_swap, hm i q1 q2]; rfl)
    have := r2 j hj
    rw [ahT_swap, hto.edge] at this
    exact ⟨r1, this⟩
  have hr : ∀ j, j ≤ a.length → (at' (openL a b ts) j).lo ≤ (at' (openL a b ts) j).hi := fun j hj => by
    have := hok.len
    exact (hok.right _ (by rw [at'_get (by omega)]; exact List.getElem_mem _)).1
  refine ⟨(key 0 (Nat.zero_le _) _ ⟨Int.le_refl _, hr 0 (Nat.zero_le _)⟩).1, fun j hj => ?_⟩
  have k1 := (key j hj _ ⟨Int.le_refl _, hr j hj⟩).2
  have k2 := (key j hj _ ⟨hr j hj, Int.le_refl _⟩).2
  omega
theorem spans_turn {a b : List Part} (ha : Ones a) (hb : Ones b) (hab : a.length = b.length) {ts : List Int} (hts : ts.length ≤ 1000) (h1 : ∀ t ∈ ts, 1 ≤ t ∧ t ≤ (a.length : Int)) (h2 : incL ts = true) (hok : AheadOk a b ts) :
    AheadOk b a ts ∧ ∀ j, j ≤ a.length → at' (openL b a ts) j = ⟨-(at' (openL a b ts) j).hi, -(at' (openL a b ts) j).lo⟩ := by
  obtain ⟨r1, r2⟩ := spans_swap ha hb hab hts h1 h2 hok
  obtain ⟨r3, r4⟩ := spans_swap hb ha (by omega) hts (by rw [← hab]; exact h1) h2 r1
  refine ⟨r1, fun j hj => ?_⟩
  have k1 := r2 j hj
  have k2 := r4 j (by omega)
  generalize at' (openL b a ts) j = s at *
  obtain ⟨lo, hi⟩ := s
  simp only [Span.mk.injEq] at *
  omega
theorem open_turn {a b : List Part} (ha : Ones a) (hb : Ones b) (hab : a.length = b.length) {ts : List Int} (hts : ts.length ≤ 1000) (h1 : ∀ t ∈ ts, 1 ≤ t ∧ t ≤ (a.length : Int)) (h2 : incL ts = true) (h : openE a b ts = 9 ∧ openL a b ts = []) : openE b a ts = 9 ∧ openL b a ts = [] := by
  rcases ones_ahead hb ha (by omega) (ts := ts) (by rw [← hab]; exact h1) h2 with hok | h'
  · have := (spans_swap hb ha (by omega) hts (by rw [← hab]; exact h1) h2 hok).1.e
    omega
  · exact h'

/-- a part with more room -/
def widen (p : Part) (d e : Int) : Part := ⟨p.picks, p.lo - d, p.hi + e⟩
theorem widen_ones {l : List Part} (h : Ones l) (hl : ∀ p ∈ l, 200 ≤ p.lo ∧ p.hi ≤ 234) {k : Nat} (hk : k < l.length) {d e : Int} (hd : 0 ≤ d ∧ d ≤ 8) (he : 0 ≤ e ∧ e ≤ 6) : Ones (l.set k (widen l[k] d e)) := ⟨by rw [List.length_set]; exact h.len, fun p hp => by
  rcases List.mem_or_eq_of_mem_set hp with hp | rfl
  · exact h.ok p hp
  · have h1 := h.ok l[k] (List.getElem_mem _)
    have h2 := hl l[k] (List.getElem_mem _)
    simp only [widen, Part.Ok] at *
    omega⟩
theorem widen_in {l : List Part} {k : Nat} (hk : k < l.length) {d e : Int} (hd : 0 ≤ d ∧ d ≤ 8) (he : 0 ≤ e ∧ e ≤ 6) {t : List Int} (h : InParts l t l.length) : InParts (l.set k (widen l[k] d e)) t l.length := by
  intro i hi h1
  have := h i hi hi
  rw [List.getElem_set]
  split
  · rename_i e; subst e
    simp only [widen]; omega
  · exact this

theorem inc_pair : ∀ {ts : List Int}, incL ts = true ↔ ts.Pairwise (· < ·)
  | [] => by simp [incL]
  | [a] => by simp [incL]
  | a :: b :: r => by
    have ih := inc_pair (ts := b :: r)
    simp only [incL, Bool.and_eq_true, decide_eq_true_eq]
    rw [ih, List.pairwise_cons (a := a)]
    constructor
    · rintro ⟨h1, h2⟩
      refine ⟨fun x hx => ?_, h2⟩
      rcases List.mem_cons.1 hx with rfl | hx
      · exact h1
      · have := (List.pairwise_cons.1 h2).1 x hx; omega
    · rintro ⟨h1, h2⟩
      exact ⟨h1 b (by simp), h2⟩
/-- the marks but one -/
def lessAt (ts : List Int) (q i : Nat) : List Int := (ts.take i).eraseIdx q
theorem less_step {ts : List Int} {q i : Nat} (hi : i < ts.length) : lessAt ts q (i + 1) = if i = q then lessAt ts q i else lessAt ts q i ++ [ts[i]] := by
  unfold lessAt
  rw [List.take_succ_eq_append_getElem hi]
  have hl : (ts.take i).length = i := by simp; omega
  by_cases h : i = q
  · subst h
    rw [if_pos rfl, List.eraseIdx_append_of_length_le (by omega : (ts.take i).length ≤ i), hl, Nat.sub_self, List.eraseIdx_of_length_le (by omega : (ts.take i).length ≤ i)]
    simp
  · rw [if_neg h]
    by_cases c : q < i
    · rw [List.eraseIdx_append_of_lt_length (by omega : q < (ts.take i).length)]
    · rw [List.eraseIdx_append_of_length_le (by omega : (ts.take i).length ≤ q), List.eraseIdx_of_length_le (by omega : (ts.take i).length ≤ q), List.eraseIdx_of_length_le (by simp; omega)]
theorem less_sub (ts : List Int) (q i : Nat) : List.Sublist (lessAt ts q i) ts := (List.eraseIdx_sublist _ _).trans (List.take_sublist _ _)
theorem less_len (ts : List Int) (q i : Nat) : (lessAt ts q i).length ≤ ts.length := (less_sub ts q i).length_le
theorem less_ok {ts : List Int} {n : Nat} (q i : Nat) (h1 : ∀ t ∈ ts, 1 ≤ t ∧ t ≤ (n : Int)) (h2 : incL ts = true) : (∀ t ∈ lessAt ts q i, 1 ≤ t ∧ t ≤ (n : Int)) ∧ incL (lessAt ts q i) = true :=
  ⟨fun t ht => h1 t ((less_sub ts q i).mem ht), inc_pair.2 ((inc_pair.1 h2).sublist (less_sub ts q i))⟩
end Go.Abs
