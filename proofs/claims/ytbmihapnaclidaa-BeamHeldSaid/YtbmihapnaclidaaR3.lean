/-
  Chapter 6: which weights hang on which layers, in plain Lean: no program in sight.
-/
import Derived.Test.YtbmihapnaclidaaR2
set_option linter.all false
namespace Go.Abs
set_option maxRecDepth 10000

/-- the weight that hangs longest from a layer on inwards: the first one of these -/
def pick (hs : List HoldA) (k : Nat) : HoldA := match hs.filter fun h => decide (h.on k) with
  | [] => ⟨k, k, 0⟩
  | h :: t => minH h t
theorem minH_snoc (b : HoldA) (l : List HoldA) (h : HoldA) : minH b (l ++ [h]) = if h.lo < (minH b l).lo then h else minH b l := by
  unfold minH; rw [List.foldl_append]; rfl
theorem pick_snoc (hs : List HoldA) (h : HoldA) (k : Nat) : pick (hs ++ [h]) k = if h.on k then if hs.any (fun h => decide (h.on k)) = false ∨ h.lo < (pick hs k).lo then h else pick hs k else pick hs k := by
  unfold pick
  rw [List.filter_append]
  by_cases hk : h.on k
  · rw [if_pos hk]
    have e : ([h].filter fun h => decide (h.on k)) = [h] := by simp [hk]
    rw [e]
    cases hf : hs.filter (fun h => decide (h.on k)) with
    | nil =>
      have : hs.any (fun h => decide (h.on k)) = false := by
        rw [List.any_eq_false]
        intro x hx hc
        have : x ∈ hs.filter fun h => decide (h.on k) := List.mem_filter.2 ⟨hx, hc⟩
        rw [hf] at this
        cases this
      rw [if_pos (.inl this)]
      rfl
    | cons b t =>
      have : hs.any (fun h => decide (h.on k)) = true := by
        have hb : b ∈ hs.filter fun h => decide (h.on k) := by rw [hf]; simp
        obtain ⟨h1, h2⟩ := List.mem_filter.1 hb
        exact List.any_eq_true.2 ⟨b, h1, h2⟩
      rw [this]
      show minH b (t ++ [h]) = _
      rw [minH_snoc]
      simp
  · rw [if_neg hk]
    have e : ([h].filter fun h => decide (h.on k)) = [] := by simp [hk]
    rw [e, List.append_nil]
theorem minH_mem (b : HoldA) (l : List HoldA) : minH b l ∈ b :: l ∧ ∀ h ∈ b :: l, (minH b l).lo ≤ h.lo := by
  induction l generalizing b with
  | nil => simp [minH]
  | cons h l ih =>
    by_cases hc : h.lo < b.lo
    · have e : minH b (h :: l) = minH h l := by unfold minH; rw [List.foldl_cons, if_pos hc]
      rw [e]
      obtain ⟨h1, h2⟩ := ih h
      have h3 := h2 h (List.mem_cons_self ..)
      refine ⟨List.mem_cons_of_mem _ h1, fun x hx => ?_⟩
      rcases List.mem_cons.1 hx with rfl | hx
      · omega
      · exact h2 x hx
    · have e : minH b (h :: l) = minH b l := by unfold minH; rw [List.foldl_cons, if_neg hc]
      rw [e]
      obtain ⟨h1, h2⟩ := ih b
      have h3 := h2 b (List.mem_cons_self ..)
      refine ⟨?_, fun x hx => ?_⟩
      · rcases List.mem_cons.1 h1 with h | h
        · rw [h]; simp
        · exact List.mem_cons_of_mem _ (List.mem_cons_of_mem _ h)
      · rcases List.mem_cons.1 hx with rfl | hx
        · exact h3
        · rcases List.mem_cons.1 hx with rfl | hx
          · omega
          · exact h2 x (List.mem_cons_of_mem _ hx)
theorem pick_mem {hs : List HoldA} {k : Nat} (h : someOn hs k = true) : pick hs k ∈ hs ∧ (pick hs k).on k ∧ ∀ x ∈ hs, x.on k → (pick hs k).lo ≤ x.lo := by
  obtain ⟨a, ha, hk⟩ := List.any_eq_true.1 h
  have hm : a ∈ hs.filter fun h => decide (h.on k) := List.mem_filter.2 ⟨ha, hk⟩
  unfold pick
  cases hf : hs.filter (fun h => decide (h.on k)) with
  | nil => rw [hf] at hm; cases hm
  | cons b t =>
    show minH b t ∈ hs ∧ (minH b t).on k ∧ ∀ x ∈ hs, x.on k → (minH b t).lo ≤ x.lo
    obtain ⟨h1, h2⟩ := minH_mem b t
    rw [← hf] at h1
    obtain ⟨h3, h4⟩ := List.mem_filter.1 h1
    refine ⟨h3, of_decide_eq_true h4, fun x hx hxk => h2 x ?_⟩
    rw [← hf]
    exact List.mem_filter.2 ⟨hx, decide_eq_true hxk⟩
theorem pick_filter {hs : List HoldA} {k : Nat} {b : HoldA} {t : List HoldA} (h : hs.filter (fun h => decide (h.on k)) = b :: t) : pick hs k = minH b t := by
  unfold pick; rw [h]

structure TurnA where
  layer : Int
  w : Int
def TurnA.av (t : TurnA) : AV := .agg [iv t.layer, iv t.w]
@[go_sem] theorem turnA_plain (l : List TurnA) : (l.map TurnA.av).all AV.plain = true := by
  simp [TurnA.av, AV.plain, AV.plain1]

/-- the turns of the innermost n layers -/
def turnsW (hs : List HoldA) : Nat → List TurnA
  | 0 => []
  | n + 1 => ⟨n, (pick hs n).w⟩ :: turnsW hs (min (pick hs n).lo.toNat n)
termination_by n => n
decreasing_by omega
theorem turnsW_zero (hs : List HoldA) : turnsW hs 0 = [] := by rw [turnsW]
theorem turnsW_succ (hs : List HoldA) (n : Nat) : turnsW hs (n + 1) = ⟨n, (pick hs n).w⟩ :: turnsW hs (min (pick hs n).lo.toNat n) := by rw [turnsW]
theorem turnsW_len (hs : List HoldA) : ∀ n, (turnsW hs n).length ≤ n := by
  intro n
  induction n using Nat.strongRecOn with
  | ind n ih =>
    match n with
    | 0 => rw [turnsW_zero]; simp
    | n + 1 =>
      rw [turnsW_succ, List.length_cons]
      have := ih (min (pick hs n).lo.toNat n) (by omega)
      omega

/-- all of the innermost n layers are covered -/
abbrev Cover (hs : List HoldA) (n : Nat) : Prop := ∀ k, k < n → someOn hs (k : Int) = true
abbrev Pos (hs : List HoldA) : Prop := ∀ h ∈ hs, 0 ≤ h.lo
theorem next_le {hs : List HoldA} {n k : Nat} (hc : Cover hs n) (hp : Pos hs) (hk : k < n) : min (pick hs k).lo.toNat k = (pick hs k).lo.toNat ∧ 0 ≤ (pick hs k).lo ∧ (pick hs k).lo ≤ k := by
  obtain ⟨h1, h2, _⟩ := pick_mem (hc k hk)
  have := hp _ h1
  omega

theorem turns_mono {hs : List HoldA} {N : Nat} (hc : Cover hs N) (hp : Pos hs) : ∀ n, n ≤ N → ∀ m, m ≤ n → (turnsW hs m).length ≤ (turnsW hs n).length := by
  intro n
  induction n using Nat.strongRecOn with
  | ind n ih =>
    intro hn m hm
    match n, m with
    | _, 0 => rw [turnsW_zero]; simp
    | n + 1, m + 1 =>
      obtain ⟨e1, b1, b2⟩ := next_le hc hp (show n < N by omega)
      obtain ⟨e2, b3, b4⟩ := next_le hc hp (show m < N by omega)
      obtain ⟨p1, p2, p3⟩ := pick_mem (hc n (by omega))
      obtain ⟨q1, q2, q3⟩ := pick_mem (hc m (by omega))
      rw [turnsW_succ hs n, turnsW_succ hs m, List.length_cons, List.length_cons, e1, e2]
      by_cases h : m + 1 ≤ (pick hs n).lo.toNat
      · have h1 := ih (pick hs n).lo.toNat (by omega) (by omega) (m + 1) h
        rw [turnsW_succ, List.length_cons, e2] at h1
        omega
      · have hon : (pick hs n).on m := by
          have := p2.1
          have := p2.2
          exact ⟨by omega, by omega⟩
        have h2 := q3 _ p1 hon
        have h1 := ih (pick hs n).lo.toNat (by omega) (by omega) (pick hs m).lo.toNat (by omega)
        omega
    | 0, m + 1 => omega
/-- the fewest turns of the innermost k + 1 layers: one, and the fewest below the layer up to which some weight can hang -/
theorem turns_best {hs : List HoldA} {N : Nat} (hc : Cover hs N) (hp : Pos hs) {k : Nat} (hk : k < N) : (∀ h ∈ hs, h.on k → (turnsW hs (k + 1)).length ≤ (turnsW hs h.lo.toNat).length + 1) ∧ ∃ h ∈ hs, h.on k ∧ (turnsW hs (k + 1)).length = (turnsW hs h.lo.toNat).length + 1 := by
  obtain ⟨e1, b1, b2⟩ := next_le hc hp hk
  obtain ⟨p1, p2, p3⟩ := pick_mem (hc k hk)
  rw [turnsW_succ, List.length_cons, e1]
  refine ⟨fun h hm hon => ?_, pick hs k, p1, p2, rfl⟩
  have h1 := p3 h hm hon
  have h2 := hp h hm
  have h3 := turns_mono hc hp h.lo.toNat (by have := hon.1; omega) (pick hs k).lo.toNat (by omega)
  omega
end Go.Abs
