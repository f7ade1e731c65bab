/-
  At a loop's head: rows get other numbers.
-/
import Derived.Test.YtfokmdhmaabegaaRegion3
set_option linter.all false
namespace Go.Abs

def Ren.le (r r' : Ren) : Prop := (∀ p ∈ r.ren, p ∈ r'.ren) ∧ ∀ p ∈ r.virt, p ∈ r'.virt

theorem Ren.le_refl (r : Ren) : r.le r := ⟨fun _ h => h, fun _ h => h⟩
theorem Ren.le_trans {a b c : Ren} (h : a.le b) (h' : b.le c) : a.le c := ⟨fun p hp => h'.1 p (h.1 p hp), fun p hp => h'.2 p (h.2 p hp)⟩

theorem lk_mem {α : Type} {k : Nat} {v : α} : ∀ {l : List (Nat × α)}, lk k l = some v → (k, v) ∈ l
  | [], h => by simp [lk] at h
  | (j, u) :: l, h => by
    simp only [lk] at h
    split at h
    · rename_i e; subst e; simp at h; subst h; simp
    · exact List.mem_cons_of_mem _ (lk_mem h)

theorem lk_of_mem {α : Type} {k : Nat} {v : α} : ∀ {l : List (Nat × α)}, (k, v) ∈ l → ∃ u, lk k l = some u
  | (j, u) :: l, h => by
    simp only [lk]
    split
    · exact ⟨u, rfl⟩
    · rename_i hne
      rcases List.mem_cons.1 h with h | h
      · cases h; exact absurd rfl hne
      · exact lk_of_mem h

/-- the old numbers are there once -/
def Ren.keys (r : Ren) : Prop := ∀ id k k', (id, k) ∈ r.ren → (id, k') ∈ r.ren → k = k'

/-- what the new numbers mean -/
def newIds (σ : Ids) (r : Ren) : Ids := fun k => match r.ren.find? (fun p => p.2 == k) with
  | some p => σ p.1
  | none => if k ∈ r.virt.map (·.1) then some .virt else none

def Ren.names (r : Ren) : List Nat := r.ren.map (·.2) ++ r.virt.map (·.1)

theorem nodup_iff : ∀ {l : List Nat}, nodup l = true → l.Nodup
  | [], _ => by simp
  | x :: l, h => by
    simp only [nodup, Bool.and_eq_true, Bool.not_eq_true'] at h
    refine List.nodup_cons.2 ⟨?_, nodup_iff h.2⟩
    have := h.1
    simpa using this

section
variable {Own : Nat → Prop} {LL : List (Nat × Loc)} {nt : Nat} {σ : Ids} {S : Nat → Prop} {w : World} {ρ : Ren}

theorem newIds_ren (hn : ρ.names.Nodup) {id k : Nat} (h : (id, k) ∈ ρ.ren) : newIds σ ρ k = σ id := by
  unfold newIds
  have hnr : (ρ.ren.map (·.2)).Nodup := (List.nodup_append.1 hn).1
  cases hf : ρ.ren.find? (fun p => p.2 == k) with
  | none =>
    have := List.find?_eq_none.1 hf (id, k) h
    simp at this
  | some p =>
    have hp := List.find?_some hf
    have hm := List.mem_of_find?_eq_some hf
    simp at hp
    simp only
    -- both have the name k
    have : p = (id, k) := by
      obtain ⟨i, hi, hpi⟩ := List.getElem_of_mem hm
      obtain ⟨j, hj, hpj⟩ := List.getElem_of_mem h
      have hij : i = j := by
        have h1 : (ρ.ren.map (·.2))[i]'(by simpa using hi) = (ρ.ren.map (·.2))[j]'(by simpa using hj) := by simp [hpi, hpj, hp]
        rcases Nat.lt_trichotomy i j with hlt | heq | hlt
        · exact absurd h1 (List.pairwise_iff_getElem.1 hnr i j (by simpa using hi) (by simpa using hj) hlt)
        · exact heq
        · exact absurd h1.symm (List.pairwise_iff_getElem.1 hnr j i (by simpa using hj) (by simpa using hi) hlt)
      subst hij
      rw [← hpi, hpj]
    rw [this]

theorem newIds_virt (hn : ρ.names.Nodup) {k : Nat} (h : k ∈ ρ.virt.map (·.1)) : newIds σ ρ k = some .virt := by
  unfold newIds
  cases hf : ρ.ren.find? (fun p => p.2 == k) with
  | none => simp only [h, if_true]
  | some p =>
    have hp := List.find?_some hf
    have hm := List.mem_of_find?_eq_some hf
    simp at hp
    have h1 : k ∈ ρ.ren.map (·.2) := by rw [← hp]; exact List.mem_map_of_mem hm
    exact absurd rfl ((List.nodup_append.1 hn).2.2 k h1 k h)

theorem newIds_some {k : Nat} {l : Loc} (h : newIds σ ρ k = some l) : k ∈ ρ.names := by
  unfold newIds at h
  unfold Ren.names
  split at h
  · rename_i p hf
    have hp := List.find?_some hf
    simp at hp
    rw [← hp]
    exact List.mem_append_left _ (List.mem_map_of_mem (List.mem_of_find?_eq_some hf))
  · split at h
    · rename_i hk; exact List.mem_append_right _ hk
    · cases h

theorem nmCell_le (k : Nat) (c : AV) (r : Ren) : r.le (nmCell k c r).2 := by
  unfold nmCell
  split
  · split
    · exact Ren.le_refl r
    · exact ⟨fun p hp => List.mem_append_left _ hp, fun _ h => h⟩
  · split
    · exact Ren.le_refl r
    · exact ⟨fun p hp => List.mem_append_left _ hp, fun _ h => h⟩
  · split
    · exact Ren.le_refl r
    · exact ⟨fun p hp => List.mem_append_left _ hp, fun _ h => h⟩
  · exact ⟨fun _ h => h, fun p hp => List.mem_append_left _ hp⟩
  · exact Ren.le_refl r
  · exact Ren.le_refl r
  · exact Ren.le_refl r
  · exact Ren.le_refl r

theorem Ren.keys_add {r : Ren} {id k : Nat} {v : List (Nat × Nat)} (h : r.keys) (hl : lk id r.ren = none) : Ren.keys ⟨r.ren ++ [(id, k)], v⟩ := by
  intro i a b ha hb
  have hno : ∀ q, (id, q) ∉ r.ren := fun q hq => by obtain ⟨u, hu⟩ := lk_of_mem hq; rw [hl] at hu; cases hu
  simp only [List.mem_append, List.mem_singleton, Prod.mk.injEq] at ha hb
  rcases ha with ha | ⟨rfl, rfl⟩ <;> rcases hb with hb | ⟨h1, h2⟩
  · exact h i a b ha hb
  · subst h1; exact absurd ha (hno a)
  · exact absurd hb (hno b)
  · exact h2.symm

theorem nmCell_keys (k : Nat) (c : AV) {r : Ren} (h : r.keys) : (nmCell k c r).2.keys := by
  unfold nmCell
  split
  · split
    · exact h
    · exact Ren.keys_add h (by assumption)
  · split
    · exact h
    · exact Ren.keys_add h (by assumption)
  · split
    · exact h
    · exact Ren.keys_add h (by assumption)
  all_goals exact h

theorem nmCell_rel (hn : ρ.names.Nodup) {k : Nat} {c : AV} {r : Ren} (hle : (nmCell k c r).2.le ρ) {v : Value} (h : RelV σ S w v c) : RelV (newIds σ ρ) S w v (nmCell k c r).1 := by
  unfold nmCell at hle ⊢
  have slice : ∀ {id off len k'}, RelV σ S w v (.slice id off len) → (id, k') ∈ ρ.ren → RelV (newIds σ ρ) S w v (.slice k' off len) := by
    intro id off len k' hv hm
    have he := newIds_ren (σ := σ) hn hm
    cases hv with
    | imm h => cases h
    | sliceV _ a hσ => exact .sliceV k' a (he.trans hσ)
    | slice _ _ _ cap b sz n c a hσ h1 h2 h3 h4 => exact .slice k' _ _ cap b sz n c a (he.trans hσ) h1 h2 h3 h4
  have ptr : ∀ {id idx off k'}, RelV σ S w v (.ptr id idx off) → (id, k') ∈ ρ.ren → RelV (newIds σ ρ) S w v (.ptr k' idx off) := by
    intro id idx off k' hv hm
    have he := newIds_ren (σ := σ) hn hm
    cases hv with
    | imm h => cases h
    | ptr _ _ _ b sz n c hσ h1 => exact .ptr k' _ _ b sz n c (he.trans hσ) h1
  have mp : ∀ {id k'}, RelV σ S w v (.mapp id) → (id, k') ∈ ρ.ren → RelV (newIds σ ρ) S w v (.mapp k') := by
    intro id k' hv hm
    have he := newIds_ren (σ := σ) hn hm
    cases hv with
    | imm h => cases h
    | mapp _ r' hσ => exact .mapp k' r' (he.trans hσ)
  split at hle
  · split at hle
    · rename_i k' hk
      simp only [hk]
      exact slice h (hle.1 _ (lk_mem hk))
    · rename_i hk
      simp only [hk]
      exact slice h (hle.1 _ (by simp))
  · split at hle
    · rename_i k' hk
      simp only [hk]
      exact ptr h (hle.1 _ (lk_mem hk))
    · rename_i hk
      simp only [hk]
      exact ptr h (hle.1 _ (by simp))
  · split at hle
    · rename_i k' hk
      simp only [hk]
      exact mp h (hle.1 _ (lk_mem hk))
    · rename_i hk
      simp only [hk]
      exact mp h (hle.1 _ (by simp))
  · rename_i sz
    have hv := newIds_virt (σ := σ) hn (k := k) (List.mem_map_of_mem (f := (·.1)) (hle.2 (k, sz) (by simp)))
    cases h with
    | imm h => cases h; exact .sliceV k _ hv
  · exact .imm (.any v)
  · exact .imm (.any v)
  · exact .imm (.any v)
  · rename_i h1 h2 h3 h4 h5 h6 h7
    cases h with
    | imm h => exact .imm h
    | sliceV id a h => exact absurd rfl (h1 _ _ _)
    | slice id off len cap b sz n c a h => exact absurd rfl (h1 _ _ _)
    | ptr id idx off b sz n c h => exact absurd rfl (h2 _ _ _)
    | mapp id r h => exact absurd rfl (h3 _)
    | agg vs cs hl hr => exact absurd rfl (h5 _)
    | tuple vs cs hl hr => exact absurd rfl (h6 _)
    | func f vs cs hl hr => exact absurd rfl (h7 _ _)

theorem nmCells_spec {f : Nat → Nat} : ∀ {cs : List AV} {j : Nat} {r : Ren}, r.le (nmCells f j cs r).2 ∧ (r.keys → (nmCells f j cs r).2.keys) ∧ (nmCells f j cs r).1.length = cs.length ∧
    (ρ.names.Nodup → (nmCells f j cs r).2.le ρ → ∀ (i : Nat) c c' v, cs[i]? = some c → (nmCells f j cs r).1[i]? = some c' → RelV σ S w v c → RelV (newIds σ ρ) S w v c')
  | [], j, r => ⟨Ren.le_refl r, fun h => h, rfl, by simp [nmCells]⟩
  | c :: cs, j, r => by
    obtain ⟨h1, h2, h3, h4⟩ := nmCells_spec (f := f) (cs := cs) (j := j + 1) (r := (nmCell (f j) c r).2)
    refine ⟨Ren.le_trans (nmCell_le ..) h1, fun h => h2 (nmCell_keys _ _ h), by simp [nmCells, h3], fun hn hle i x x' v hx hx' hv => ?_⟩
    cases i with
    | zero =>
      simp [nmCells] at hx hx'
      subst hx hx'
      exact nmCell_rel hn (Ren.le_trans h1 hle) hv
    | succ i =>
      simp [nmCells] at hx hx'
      exact h4 hn hle i x x' v hx hx' hv

theorem nmVal_spec (t : Nat) (v : AV) (r : Ren) : r.le (nmVal t v r).2 ∧ (r.keys → (nmVal t v r).2.keys) ∧
    (ρ.names.Nodup → (nmVal t v r).2.le ρ → ∀ u, RelV σ S w u v → RelV (newIds σ ρ) S w u (nmVal t v r).1) := by
  unfold nmVal
  split
  · rename_i cs
    obtain ⟨h1, h2, h3, h4⟩ := nmCells_spec (σ := σ) (S := S) (w := w) (ρ := ρ) (f := canon t) (cs := cs) (j := 0) (r := r)
    refine ⟨h1, h2, fun hn hle u hu => ?_⟩
    obtain ⟨vs, rfl, hl, hr⟩ := hu.agg_inv
    refine .agg vs _ (by simpa [h3] using hl) fun i x c hx hc => ?_
    have hi : i < cs.length := by have := (List.getElem?_eq_some_iff.1 hc).1; simp [h3] at this; exact this
    exact h4 hn hle i cs[i] c x (List.getElem?_eq_getElem hi) hc (hr i x _ hx (List.getElem?_eq_getElem hi))
  · rename_i f cs
    obtain ⟨h1, h2, h3, h4⟩ := nmCells_spec (σ := σ) (S := S) (w := w) (ρ := ρ) (f := canon t) (cs := cs) (j := 0) (r := r)
    refine ⟨h1, h2, fun hn hle u hu => ?_⟩
    have hinv : ∃ vs, u = .func (.func f) #[] vs ∧ vs.size = cs.length ∧ ∀ (i : Nat) v c, vs[i]? = some v → cs[i]? = some c → RelV σ S w v c := by
      cases hu with
      | imm hu => cases hu with | func _ vs _ hl hr => exact ⟨vs, rfl, hl, fun i v c h1 h2 => .imm (hr i v c h1 h2)⟩
      | func _ vs _ hl hr => exact ⟨vs, rfl, hl, hr⟩
    obtain ⟨vs, rfl, hl, hr⟩ := hinv
    refine .func f vs _ (by simpa [h3] using hl) fun i x c hx hc => ?_
    have hi : i < cs.length := by have := (List.getElem?_eq_some_iff.1 hc).1; simp [h3] at this; exact this
    exact h4 hn hle i cs[i] c x (List.getElem?_eq_getElem hi) hc (hr i x _ hx (List.getElem?_eq_getElem hi))
  · exact ⟨nmCell_le .., fun h => nmCell_keys _ _ h, fun hn hle u hu => nmCell_rel hn hle hu⟩

theorem nmTm_spec {a : Act} : ∀ {l : List (Nat × AV)} {r : Ren}, r.le (nmTm l r).2 ∧ (r.keys → (nmTm l r).2.keys) ∧
    (ρ.names.Nodup → (nmTm l r).2.le ρ → (∀ p ∈ l, RelV σ S w (a.tmps.getD p.1 undef) p.2) → ∀ p ∈ (nmTm l r).1, RelV (newIds σ ρ) S w (a.tmps.getD p.1 undef) p.2)
  | [], r => ⟨Ren.le_refl r, fun h => h, by simp [nmTm]⟩
  | (t, v) :: l, r => by
    obtain ⟨g1, g2, g3⟩ := nmVal_spec (σ := σ) (S := S) (w := w) (ρ := ρ) t v r
    obtain ⟨h1, h2, h3⟩ := nmTm_spec (a := a) (l := l) (r := (nmVal t v r).2)
    refine ⟨Ren.le_trans g1 h1, fun h => h2 (g2 h), fun hn hle hl p hp => ?_⟩
    simp only [nmTm, List.mem_cons] at hp
    rcases hp with rfl | hp
    · exact g3 hn (Ren.le_trans h1 hle) _ (hl (t, v) (by simp))
    · exact h3 hn hle (fun q hq => hl q (List.mem_cons_of_mem _ hq)) p hp

theorem RowOk.rename {σ' : Ids} {id k : Nat} {r : Row} (h : RowOk σ S w id r) (hk : σ' k = σ id) (hb : ∀ cs, r ≠ .box cs) : RowOk σ' S w k r := by
  cases r with
  | arr sz es =>
    rcases h with ⟨h1, h2⟩ | ⟨b, c, cs, t, h1, h2⟩
    · exact .inl ⟨hk.trans h1, h2⟩
    · exact .inr ⟨b, c, cs, t, hk.trans h1, h2⟩
  | box cs => exact absurd rfl (hb cs)
  | mp q kv =>
    obtain ⟨r, es, clock, h1, h2⟩ := h
    exact ⟨r, es, clock, hk.trans h1, h2⟩

theorem nmRows_spec {rows : List (Nat × Row)} (hR : RowsOk Own σ S w (fun i => lk i rows)) : ∀ {l : List (Nat × Nat)} {r : Ren}, r.le (nmRows rows l r).2 ∧ (r.keys → (nmRows rows l r).2.keys) ∧
    (ρ.names.Nodup → (∀ p ∈ l, p ∈ ρ.ren) → (nmRows rows l r).2.le ρ → (∀ p ∈ (nmRows rows l r).1, p.2.scalars = true) → ∀ p ∈ (nmRows rows l r).1, RowOk (newIds σ ρ) S w p.1 p.2 ∧ ∃ id r0, (id, p.1) ∈ l ∧ lk id rows = some r0)
  | [], r => ⟨Ren.le_refl r, fun h => h, by simp [nmRows]⟩
  | (id, k) :: l, r => by
    unfold nmRows
    split
    · rename_i cs hrow
      obtain ⟨g1, g2, g3, g4⟩ := nmCells_spec (σ := σ) (S := S) (w := w) (ρ := ρ) (f := canon2 k) (cs := cs) (j := 0) (r := r)
      obtain ⟨h1, h2, h3⟩ := nmRows_spec hR (l := l) (r := (nmCells (canon2 k) 0 cs r).2)
      refine ⟨Ren.le_trans g1 h1, fun h => h2 (g2 h), fun hn hl hle hsc p hp => ?_⟩
      simp only [List.mem_cons] at hp
      rcases hp with rfl | hp
      · have hk := newIds_ren (σ := σ) hn (hl (id, k) (by simp))
        obtain ⟨b, cells, t, q1, q2, q3, q4, q5⟩ := hR.ok id _ hrow
        refine ⟨⟨b, cells, t, by rw [hk, q1, g3], q2, by rw [q3, g3], fun x hx => ?_, fun i x hx => ?_⟩, id, _, by simp, hrow⟩
        · have := hsc (k, .box (nmCells (canon2 k) 0 cs r).1) (by simp)
          simp only [Row.scalars, List.all_eq_true] at this
          exact this x hx
        · have hi' : i < cs.length := by have := (List.getElem?_eq_some_iff.1 hx).1; rw [g3] at this; exact this
          obtain ⟨v, hv, hrel⟩ := q5 i cs[i] (List.getElem?_eq_getElem hi')
          exact ⟨v, hv, g4 hn (Ren.le_trans h1 hle) i cs[i] x v (List.getElem?_eq_getElem hi') hx hrel⟩
      · obtain ⟨q1, i', r0, q2, q3⟩ := h3 hn (fun p hp => hl p (List.mem_cons_of_mem _ hp)) hle (fun q hq => hsc q (by first | exact List.mem_cons_of_mem _ hq | exact hq)) p hp
        exact ⟨q1, i', r0, List.mem_cons_of_mem _ q2, q3⟩
    · rename_i row hnb hrow
      obtain ⟨h1, h2, h3⟩ := nmRows_spec hR (l := l) (r := r)
      refine ⟨h1, h2, fun hn hl hle hsc p hp => ?_⟩
      simp only [List.mem_cons] at hp
      rcases hp with rfl | hp
      · have hk := newIds_ren (σ := σ) hn (hl (id, k) (by simp))
        exact ⟨(hR.ok id _ hrow).rename hk hnb, id, row, by simp, hrow⟩
      · obtain ⟨q1, i', r0, q2, q3⟩ := h3 hn (fun p hp => hl p (List.mem_cons_of_mem _ hp)) hle (fun q hq => hsc q (by first | exact List.mem_cons_of_mem _ hq | exact hq)) p hp
        exact ⟨q1, i', r0, List.mem_cons_of_mem _ q2, q3⟩
    · obtain ⟨h1, h2, h3⟩ := nmRows_spec hR (l := l) (r := r)
      refine ⟨h1, h2, fun hn hl hle hsc p hp => ?_⟩
      obtain ⟨q1, i', r0, q2, q3⟩ := h3 hn (fun p hp => hl p (List.mem_cons_of_mem _ hp)) hle (fun q hq => hsc q (by first | exact List.mem_cons_of_mem _ hq | exact hq)) p hp
      exact ⟨q1, i', r0, List.mem_cons_of_mem _ q2, q3⟩

end
end Go.Abs
