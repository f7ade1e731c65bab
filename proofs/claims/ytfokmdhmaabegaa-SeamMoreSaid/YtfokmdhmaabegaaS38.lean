/-
  Chapter 7: what SeamStretch leans on: the spans with the marks of a truth's own; truths that Show returns. Plain, and Show at the ends of a span.
-/
import Derived.Test.YtfokmdhmaabegaaS37
import Derived.Test.YtfokmdhmaabegaaS15
set_option linter.all false
namespace Go.Abs
set_option maxRecDepth 10000
set_option maxHeartbeats 1000000

theorem ones_at {a : List Part} (ha : Ones a) {i : Nat} (h : i < a.length) : at' (widthsL a) i = a[i].w := by
  rw [ha.widths]; simp [at', h]
theorem ones_fit {a b : List Part} (ha : Ones a) (hb : Ones b) (hab : a.length = b.length) {tA tB : List Int} (h1 : InParts a tA a.length) (h2 : InParts b tB a.length) : ∀ i, i < a.length → FitT (widthsL a) (widthsL b) tA tB i := by
  intro i hi
  have k1 := h1 i hi hi
  have k2 := h2 i hi (by omega)
  unfold FitT InW
  rw [ones_at ha hi, ones_at hb (by omega)]
  exact ⟨k1, k2⟩
/-- with marks at which a truth has both lengths at one place, a truth is left, and lies in the spans -/
theorem truth_ahead {a b : List Part} (ha : Ones a) (hb : Ones b) (hab : a.length = b.length) {ts tA tB : List Int} (h1 : ∀ t ∈ ts, 1 ≤ t ∧ t ≤ (a.length : Int)) (h2 : incL ts = true)
    (f1 : InParts a tA a.length) (f2 : InParts b tB a.length) (hm : ∀ i : Nat, i ≤ a.length → (i : Int) ∈ ts → ahT tA tB i = 0) :
    AheadOk a b ts ∧ ∀ j, j ≤ a.length → (at' (openL a b ts) j).lo ≤ ahT tA tB j ∧ ahT tA tB j ≤ (at' (openL a b ts) j).hi := by
  have p0 := ones_pair ha hb hab
  have hq := pairOk (ts := ts) p0
  have hwl := ones_wlen ha
  have hfit := ones_fit ha hb hab f1 f2
  have hgood := truth_good (n := a.length) hfit hm
  have hok : AheadOk a b ts := by
    rcases ones_ahead ha hb hab h1 h2 with h | ⟨h, _⟩
    · exact h
    · exfalso
      have hall : (ts.all fun t => decide (1 ≤ t ∧ t ≤ ((pairL a b).more.length : Int))) = true := by
        rw [List.all_eq_true]
        intro t ht
        have := h1 t ht
        rw [hq.pa]; simp only [decide_eq_true_eq, hq.lm]; omega
      cases hgo : aheadGo (pairL a b).more 0 ts with
      | some l =>
        unfold openE at h
        rw [if_neg (by rw [p0]; simp), if_neg (by rw [hall]; simp), if_neg (by rw [h2]; simp), if_neg (by rw [hgo]; simp)] at h
        omega
      | none =>
        obtain ⟨i, hi, hbad⟩ := (ahead_ref p0 hall h2).2 hgo
        exact hgood i (by omega) hbad
  refine ⟨hok, fun j hj => ?_⟩
  rw [hok.at hj]
  have hb := ahT_bound hq.wda hq.wdb (i := a.length) fun j hj => hfit j hj
  have := ha.len
  exact truth_out hfit hm (by omega) hj
/-- a truth that Show returns fits the parts -/
theorem truthOk_fits {a b : List Part} (ha : Ones a) (hb : Ones b) (hab : a.length = b.length) {ts : List Int} {edge : Nat} {x : Int} {t : TruthA} (h : TruthOk (widthsL a) (widthsL b) ts (widthsL a).length edge x t) :
    t.a.length = a.length ∧ t.b.length = a.length ∧ (∀ i (h1 : i < a.length) (h2 : i < b.length), (a[i].lo ≤ atI t.a i ∧ atI t.a i ≤ a[i].hi) ∧ (b[i].lo ≤ atI t.b i ∧ atI t.b i ≤ b[i].hi)) ∧
    (∀ i, i < a.length → (0 ≤ atI t.a i ∧ atI t.a i ≤ 10000) ∧ (0 ≤ atI t.b i ∧ atI t.b i ≤ 10000)) := by
  have hwl := ones_wlen ha
  have key : ∀ i (h1 : i < a.length) (h2 : i < b.length), (a[i].lo ≤ atI t.a i ∧ atI t.a i ≤ a[i].hi) ∧ (b[i].lo ≤ atI t.b i ∧ atI t.b i ≤ b[i].hi) := by
    intro i h1 h2
    have := h.fit i (by omega)
    unfold FitT InW at this
    rw [ones_at ha h1, ones_at hb h2] at this
    exact this
  refine ⟨by rw [h.la]; exact hwl, by rw [h.lb]; exact hwl, key, fun i hi => ?_⟩
  have k := key i hi (by omega)
  have k1 := ha.ok a[i] (List.getElem_mem _)
  have k2 := hb.ok (b[i]'(by omega)) (List.getElem_mem _)
  omega
theorem show_in {a b : List Part} (ha : Ones a) {ts : List Int} (hts : ts.length ≤ 1000) (o : openE a b ts = 0) {edge : Nat} (he : edge ≤ a.length) {x : Int} (hx : (at' (openL a b ts) edge).lo ≤ x ∧ x ≤ (at' (openL a b ts) edge).hi) :
    ∃ t : TruthA, lim F 37 [.list 3 (a.map Part.av), .list 3 (b.map Part.av), .list 1 (ts.map fun n => iv n), iv edge, iv x] = some (.tuple [.agg [.own 1 (t.a.map fun n => iv n), .own 1 (t.b.map fun n => iv n)], iv 0], []) ∧
      TruthOk (widthsL a) (widthsL b) ts (widthsL a).length edge x t := by
  obtain ⟨r, h1, t, rfl, h2⟩ := Show_ok a b ts edge x hts o (by rw [ones_wlen ha]; exact he) hx
  exact ⟨t, h1, h2⟩
theorem show_out {a b : List Part} (ha : Ones a) {ts : List Int} (hts : ts.length ≤ 1000) (o : openE a b ts = 0) {edge : Nat} (he : edge ≤ a.length) {x : Int} (hx : ¬ ((at' (openL a b ts) edge).lo ≤ x ∧ x ≤ (at' (openL a b ts) edge).hi)) :
    lim F 37 [.list 3 (a.map Part.av), .list 3 (b.map Part.av), .list 1 (ts.map fun n => iv n), iv edge, iv x] = some (.tuple [.agg [.own 1 [], .own 1 []], iv 7], []) :=
  Show_err a b ts edge x 7 hts (fun h => absurd o h) (fun _ h => absurd ⟨by omega, by rw [ones_wlen ha]; omega⟩ h) fun _ _ _ => ⟨rfl, by simpa using hx⟩
end Go.Abs
