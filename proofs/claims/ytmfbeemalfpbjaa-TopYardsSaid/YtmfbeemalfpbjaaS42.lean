/-
  Chapter 7, cutting: the contract of the reference's Pieces.
-/
import Derived.Test.YtmfbeemalfpbjaaS41
set_option linter.all false
namespace Go.Abs
set_option maxRecDepth 10000
set_option maxHeartbeats 4000000

/-- some of the lengths, in a list of their own -/
def pickL (l : List Cut) (js : List Nat) : List Cut := js.map (cutAt l)
section
variable {r : Int} {bad : List Int} {l : List Cut} {js : List Nat}
theorem pick_at {j : Nat} (h : j < js.length) : cutAt (pickL l js) j = cutAt l js[j] := by simp [pickL, cutAt, h]
theorem pick_comp : ∀ (o : List Nat) (f : Int), (∀ j ∈ o, j < js.length) → comp r bad (pickL l js) o f = comp r bad l (o.map fun j => js.getD j 0) f
  | [], _, _ => rfl
  | j :: o, f, h => by
    have hj := h j (by simp)
    have e1 : comp r bad (pickL l js) (j :: o) f = comp r bad (pickL l js) o (endF r bad (pickL l js) f j) := rfl
    have e2 : comp r bad l ((j :: o).map fun j => js.getD j 0) f = comp r bad l (o.map fun j => js.getD j 0) (endF r bad l f (js.getD j 0)) := rfl
    have e3 : js.getD j 0 = js[j] := by simp [List.getD, hj]
    rw [e1, e2, pick_comp o _ fun k hk => h k (List.mem_cons_of_mem _ hk), e3]
    unfold endF
    rw [pick_at hj]
theorem pick_ok (hv : CutsOk r bad l) (hn : js.Nodup) (hi : ∀ i ∈ js, i < l.length) : CutsOk r bad (pickL l js) :=
  ⟨hv.rr, hv.lb, by
    have : js.length ≤ (List.range l.length).length := hn.length_le_of_subset fun i h => List.mem_range.2 (hi i h)
    have := hv.ll
    simp [pickL] at *; omega, hv.bb, fun c hc => by
    obtain ⟨i, h, rfl⟩ := List.mem_map.1 hc
    exact hv.cc _ (cutAt_mem (hi i h))⟩
theorem pick_best (hn : js.Nodup) (hi : ∀ i ∈ js, i < l.length) {x : Int} (h : Best r bad l (fun i => decide (i ∈ js)) 0 x) : Best r bad (pickL l js) (fun _ => true) 0 x := by
  have hlen : (pickL l js).length = js.length := by simp [pickL]
  obtain ⟨⟨o', ho, hx⟩, hle⟩ := h
  refine ⟨⟨o'.map fun i => js.idxOf i, ⟨?_, fun j => ?_⟩, ?_⟩, fun o ho2 => ?_⟩
  · unfold List.Nodup
    rw [List.pairwise_map]
    refine List.Pairwise.imp_of_mem ?_ ho.1
    intro a b ha hb hab he
    have ha := ((ho.2 a).1 ha).2
    have hb := ((ho.2 b).1 hb).2
    simp only [decide_eq_true_eq] at ha hb
    apply hab
    rw [← List.getElem_idxOf (List.idxOf_lt_length_of_mem ha), ← List.getElem_idxOf (List.idxOf_lt_length_of_mem hb)]
    simp only [he]
  · rw [hlen, List.mem_map]
    constructor
    · rintro ⟨i, h1, rfl⟩
      have := ((ho.2 i).1 h1).2
      simp only [decide_eq_true_eq] at this
      exact ⟨List.idxOf_lt_length_of_mem this, rfl⟩
    · rintro ⟨h1, _⟩
      exact ⟨js[j], (ho.2 _).2 ⟨hi _ (List.getElem_mem h1), by simp⟩, hn.idxOf_getElem j h1⟩
  · rw [pick_comp _ _ fun j hj => ?_, List.map_map]
    · rw [← hx]
      congr 1
      refine (List.map_congr_left fun i h1 => ?_).trans (List.map_id o')
      have := ((ho.2 i).1 h1).2
      simp only [decide_eq_true_eq] at this
      have hl := List.idxOf_lt_length_of_mem this
      simp [List.getD, hl]
    · obtain ⟨i, h1, rfl⟩ := List.mem_map.1 hj
      have := ((ho.2 i).1 h1).2
      simp only [decide_eq_true_eq] at this
      exact List.idxOf_lt_length_of_mem this
  · have hb : ∀ j ∈ o, j < js.length := fun j hj => by have := ((ho2.2 j).1 hj).1; omega
    rw [pick_comp _ _ hb]
    apply hle
    refine ⟨?_, fun i => ?_⟩
    · unfold List.Nodup
      rw [List.pairwise_map]
      refine List.Pairwise.imp_of_mem ?_ ho2.1
      intro a b ha hb' hab he
      have ha := hb a ha
      have hb' := hb b hb'
      simp only [List.getD, ha, hb', List.getElem?_eq_getElem, Option.getD_some] at he
      apply hab
      rw [← hn.idxOf_getElem a ha, ← hn.idxOf_getElem b hb', he]
    · rw [List.mem_map]
      constructor
      · rintro ⟨j, h1, rfl⟩
        have := hb j h1
        have e : js.getD j 0 = js[j] := by simp [List.getD, this]
        rw [e]
        exact ⟨hi _ (List.getElem_mem _), by simp⟩
      · rintro ⟨_, h1⟩
        simp only [decide_eq_true_eq] at h1
        obtain ⟨j, hj, rfl⟩ := List.getElem_of_mem h1
        exact ⟨j, (ho2.2 j).2 ⟨by omega, rfl⟩, by simp [List.getD, hj]⟩
end

/-- the lengths up to one that lie in one piece -/
def fib (a : Nat) (h : Nat → Nat) (j : Nat) : List Nat := (List.range a).filter fun i => decide (h i = j)
def putH (h : Nat → Nat) (a i : Nat) : Nat → Nat := fun k => if k = a then i else h k
theorem fib_put {a i j : Nat} {h : Nat → Nat} : fib (a + 1) (putH h a i) j = if j = i then fib a h j ++ [a] else fib a h j := by
  unfold fib
  rw [List.range_succ, List.filter_append]
  have e : (List.range a).filter (fun k => decide (putH h a i k = j)) = (List.range a).filter fun k => decide (h k = j) := by
    apply List.filter_congr
    intro k hk
    have := List.mem_range.1 hk
    have : k ≠ a := by omega
    simp [putH, this]
  rw [e]
  by_cases c : j = i
  · subst c; simp [putH]
  · have : ¬ i = j := fun h => c h.symm
    simp [putH, c, this]
theorem fib_mem {a j k : Nat} {h : Nat → Nat} : k ∈ fib a h j ↔ k < a ∧ h k = j := by simp [fib]
theorem fib_nodup (a : Nat) (h : Nat → Nat) (j : Nat) : (fib a h j).Nodup := List.nodup_range.filter _
def grp (l : List Cut) (a : Nat) (h : Nat → Nat) (j : Nat) : AV := .list 2 ((pickL l (fib a h j)).map Cut.av)

/-- lengths that are shared out so far go on to so many pieces -/
def Onto (n : Nat) (P : (Nat → Bool) → Prop) (a c : Nat) (h : Nat → Nat) (m : Nat) : Prop :=
  c ≤ m ∧ ∃ h' : Nat → Nat, (∀ i, i < a → h' i = h i) ∧ (∀ i, i < n → h' i < m) ∧ ∀ j, j < m → P fun i => decide (h' i = j)
section
variable {n : Nat} {P : (Nat → Bool) → Prop} (hmono : ∀ p q : Nat → Bool, (∀ i, i < n → p i = true → q i = true) → P q → P p)
include hmono
theorem ext_end {c : Nat} {h : Nat → Nat} (hc : ∀ i, i < n → h i < c) (hP : ∀ j, j < c → P fun i => decide (i < n ∧ h i = j)) : Onto n P n c h c :=
  ⟨Nat.le_refl _, h, fun _ _ => rfl, hc, fun j hj => hmono _ _ (fun i hi hp => by simp at hp ⊢; exact ⟨hi, hp⟩) (hP j hj)⟩
theorem ext_up {a c i : Nat} {h : Nat → Nat} {m : Nat} (hi : i ≤ c) (hx : Onto n P (a + 1) (if i = c then c + 1 else c) (putH h a i) m) : Onto n P a c h m := by
  obtain ⟨h1, h', h2, h3, h4⟩ := hx
  refine ⟨by split at h1 <;> omega, h', fun k hk => ?_, h3, h4⟩
  rw [h2 k (by omega)]
  simp [putH, show k ≠ a by omega]
theorem ext_down {a c : Nat} {h : Nat → Nat} {m : Nat} (ha : a < n) (hc : ∀ i, i < a → h i < c) (hx : Onto n P a c h m) : ∃ i, i ≤ c ∧ Onto n P (a + 1) (if i = c then c + 1 else c) (putH h a i) m := by
  obtain ⟨h1, h', h2, h3, h4⟩ := hx
  by_cases e : h' a < c
  · refine ⟨h' a, by omega, by split <;> omega, h', fun k hk => ?_, h3, h4⟩
    by_cases k' : k = a
    · subst k'; simp [putH]
    · simp only [putH, if_neg k']; exact h2 k (by omega)
  · have hm := h3 a ha
    refine ⟨c, Nat.le_refl _, by rw [if_pos rfl]; omega, fun k => if h' k = c then h' a else if h' k = h' a then c else h' k, fun k hk => ?_, fun k hk => ?_, fun j hj => ?_⟩
    · by_cases k' : k = a
      · subst k'; simp only [putH, if_pos]; split <;> omega
      · have := hc k (by omega)
        have := h2 k (by omega)
        simp only [putH, if_neg k']
        rw [if_neg (by omega), if_neg (by omega)]; omega
    · have := h3 k hk
      dsimp only
      split
      · omega
      · split <;> omega
    · by_cases j1 : j = c
      · subst j1
        refine hmono _ _ (fun k hk hp => ?_) (h4 (h' a) hm)
        simp only [decide_eq_true_eq] at hp ⊢
        split at hp
        · omega
        · split at hp <;> omega
      · by_cases j2 : j = h' a
        · subst j2
          refine hmono _ _ (fun k hk hp => ?_) (h4 c (by omega))
          simp only [decide_eq_true_eq] at hp ⊢
          split at hp
          · assumption
          · split at hp <;> omega
        · refine hmono _ _ (fun k hk hp => ?_) (h4 j hj)
          simp only [decide_eq_true_eq] at hp ⊢
          split at hp
          · omega
          · split at hp <;> omega
/-- a piece that is too full stays so -/
theorem ext_part {a c : Nat} {h : Nat → Nat} {m j : Nat} (ha : a ≤ n) (hx : Onto n P a c h m) (hj : j < c) : P fun i => decide (i < a ∧ h i = j) := by
  obtain ⟨h1, h', h2, h3, h4⟩ := hx
  refine hmono _ _ (fun i hi hp => ?_) (h4 j (by omega))
  simp only [decide_eq_true_eq] at hp ⊢
  rw [h2 i hp.1]; exact hp.2
end

/-- the least number of pieces, or none -/
def LeastOr (Q : Nat → Prop) (v : Int) : Prop := (v = 1099511627776 ∧ ∀ m, ¬ Q m) ∨ ∃ m : Nat, v = m ∧ Q m ∧ m ≤ 100 ∧ ∀ m', Q m' → m ≤ m'
theorem LeastOr.bound {Q : Nat → Prop} {v : Int} (h : LeastOr Q v) : 0 ≤ v ∧ v ≤ 1099511627776 := by
  rcases h with ⟨h, _⟩ | ⟨m, h, _, h2, _⟩ <;> omega
theorem least_or {Q R : Nat → Prop} {v w : Int} (h : LeastOr Q v) (h' : LeastOr R w) : LeastOr (fun m => Q m ∨ R m) (min v w) := by
  rcases h with ⟨h1, h2⟩ | ⟨m, h1, h2, h3, h4⟩ <;> rcases h' with ⟨g1, g2⟩ | ⟨m', g1, g2, g3, g4⟩
  · exact .inl ⟨by omega, fun m h => h.elim (h2 m) (g2 m)⟩
  · exact .inr ⟨m', by omega, .inr g2, g3, fun q h => h.elim (fun h => absurd h (h2 q)) (g4 q)⟩
  · exact .inr ⟨m, by omega, .inl h2, h3, fun q h => h.elim (h4 q) fun h => absurd h (g2 q)⟩
  · by_cases c : m ≤ m'
    · exact .inr ⟨m, by omega, .inl h2, h3, fun q h => h.elim (h4 q) fun h => Nat.le_trans c (g4 q h)⟩
    · exact .inr ⟨m', by omega, .inr g2, g3, fun q h => h.elim (fun h => Nat.le_trans (by omega) (h4 q h)) (g4 q)⟩
theorem least_none {Q R : Nat → Prop} {v : Int} (h : LeastOr Q v) (h' : ∀ m, ¬ R m) : LeastOr (fun m => Q m ∨ R m) v := by
  rcases h with ⟨h1, h2⟩ | ⟨m, h1, h2, h3, h4⟩
  · exact .inl ⟨h1, fun m h => h.elim (h2 m) (h' m)⟩
  · exact .inr ⟨m, h1, .inl h2, h3, fun q h => h.elim (h4 q) fun h => absurd h (h' q)⟩
theorem least_congr {Q R : Nat → Prop} {v : Int} (h : LeastOr Q v) (e : ∀ m, Q m ↔ R m) : LeastOr R v := by
  have : Q = R := funext fun m => propext (e m)
  rw [← this]; exact h
end Go.Abs

