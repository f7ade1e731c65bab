/-
  Steps of operations, first part: what a step is, rows that come and rows that are locked, what freezing means, operands.
-/
import Derived.Test.YtfokmdhmaabegaaRel
import Derived.Test.YtfokmdhmaabegaaComp
set_option linter.all false
namespace Go.Abs

def Ids.set (σ : Ids) (s : Nat) (l : Loc) : Ids := fun id => if id = s then some l else σ id

theorem Ids.le_set {σ : Ids} {s : Nat} {l : Loc} (h : σ s = none) : σ.le (σ.set s l) := by
  intro id l' h'
  unfold Ids.set
  split
  · rename_i e; subst e; rw [h] at h'; cases h'
  · exact h'

@[simp] theorem Ids.set_self (σ : Ids) (s : Nat) (l : Loc) : (σ.set s l) s = some l := by simp [Ids.set]
theorem Ids.set_other {σ : Ids} {s id : Nat} {l : Loc} (h : id ≠ s) : (σ.set s l) id = σ id := by simp [Ids.set, h]

/-- what an operation does -/
def Step (Own : Nat → Prop) (σ : Ids) (S : Nat → Prop) (w : World) (R : Nat → Option Row) (s : Nat) (e : Eff) (v : Value) (w' : World) : Prop :=
  ∃ σ' S', RelV σ' S' w' v e.v ∧ RowsOk Own σ' S' w' (updR e.wr R) ∧ Ext Own σ S w σ' S' w' ∧ ∀ id, id < s ∨ s + siteWidth ≤ id → σ' id = σ id

section
variable {Own : Nat → Prop} {σ : Ids} {S : Nat → Prop} {w : World} {R : Nat → Option Row} {s : Nat}

theorem Step.pure {a : AV} {v : Value} (hR : RowsOk Own σ S w R) (h : RelV σ S w v a) : Step Own σ S w R s (.pure a) v w :=
  ⟨σ, S, h, hR, Ext.refl .., fun _ _ => rfl⟩

theorem Step.read {a : AV} {v : Value} {rd : List Nat} (hR : RowsOk Own σ S w R) (h : RelV σ S w v a) : Step Own σ S w R s ⟨a, [], rd⟩ v w :=
  ⟨σ, S, h, hR, Ext.refl .., fun _ _ => rfl⟩

theorem RowsOk.restrict {R' : Nat → Option Row} (h : RowsOk Own σ S w R) (hr : ∀ id r, R' id = some r → R id = some r) : RowsOk Own σ S w R' :=
  ⟨fun id r hi => h.ok id r (hr _ _ hi), fun id r b hi => h.apart id r b (hr _ _ hi), fun id id' r r' b hi hi' => h.inj id id' r r' b (hr _ _ hi) (hr _ _ hi'), h.old⟩

theorem RowsOk.lt (h : RowsOk Own σ S w R) {id : Nat} {r : Row} {b : Nat} (hi : R id = some r) (hb : Loc.has (σ id) b) : b < w.heap.size := by
  have hk := h.ok id r hi
  obtain ⟨l, hl, hb⟩ := hb
  cases r with
  | arr sz es =>
    rcases hk with ⟨h1, _⟩ | ⟨b', c, cs, t, h1, h2, _⟩
    · rw [hl] at h1; cases h1; cases hb
    · rw [hl] at h1; cases h1; cases hb; exact (Array.getElem?_eq_some_iff.1 h2).1
  | box xs =>
    obtain ⟨b', cs, t, h1, h2, _⟩ := hk
    rw [hl] at h1; cases h1; cases hb; exact (Array.getElem?_eq_some_iff.1 h2).1
  | mp k kv =>
    obtain ⟨b', cs, t, h1, h2, _⟩ := hk
    rw [hl] at h1; cases h1; cases hb; exact (Array.getElem?_eq_some_iff.1 h2).1

/-- a row comes -/
theorem RowsOk.alloc {w' : World} {l : Loc} {row : Row} (h : RowsOk Own σ S w R) (hs : σ s = none) (hO : ∀ b, w.heap.size ≤ b → Own b)
    (hl : ∀ b, l.block = some b → b = w.heap.size) (hw : ∀ b, b < w.heap.size → w'.heap[b]? = w.heap[b]?) (hS : Same w w')
    (hr : RowOk (σ.set s l) S w' s row) :
    RowsOk Own (σ.set s l) S w' (updR [(s, some row)] R) ∧ Ext Own σ S w (σ.set s l) S w' := by
  have hle : σ.le (σ.set s l) := Ids.le_set hs
  have hkeep : ∀ b, S b → w'.heap[b]? = w.heap[b]? := fun b hb => hw b (h.old b hb)
  have hR : ∀ id r, id ≠ s → updR [(s, some row)] R id = some r → R id = some r := fun id r hne hi => by simpa [updR, Ne.symm hne] using hi
  have hnot : ∀ id r b, R id = some r → Loc.has (σ id) b → id ≠ s := by
    rintro id r b _ ⟨l', hl', _⟩ rfl
    rw [hs] at hl'; cases hl'
  refine ⟨⟨fun id r hi => ?_, fun id r b hi hb => ?_, fun id id' r r' b hi hi' hb hb' => ?_, fun b hb => Nat.lt_of_lt_of_le (h.old b hb) hS.size⟩, hle, fun _ h => h, hkeep, fun b hb => hw b ?_, hS, fun _ h => .inl h⟩
  · by_cases hne : id = s
    · subst hne
      simp [updR] at hi
      subst hi; exact hr
    · have hi' := hR id r hne hi
      exact (h.ok id r hi').mono hle (fun _ h => h) hkeep fun b hb => hw b (h.lt hi' hb)
  · by_cases hne : id = s
    · subst hne
      obtain ⟨l', hl', hb⟩ := hb
      simp at hl'; subst hl'
      have := hl b hb
      subst this
      exact ⟨fun hb => Nat.lt_irrefl _ (h.old _ hb), hO _ (Nat.le_refl _)⟩
    · rw [Ids.set_other hne] at hb
      exact h.apart id r b (hR id r hne hi) hb
  · by_cases hne : id = s
    · by_cases hne' : id' = s
      · rw [hne, hne']
      · subst hne
        obtain ⟨l', hl', hb⟩ := hb
        simp at hl'; subst hl'
        have := hl b hb
        subst this
        rw [Ids.set_other hne'] at hb'
        exact absurd (h.lt (hR id' r' hne' hi') hb') (Nat.lt_irrefl _)
    · by_cases hne' : id' = s
      · subst hne'
        obtain ⟨l', hl', hb'⟩ := hb'
        simp at hl'; subst hl'
        have := hl b hb'
        subst this
        rw [Ids.set_other hne] at hb
        exact absurd (h.lt (hR id r hne hi) hb) (Nat.lt_irrefl _)
      · rw [Ids.set_other hne] at hb
        rw [Ids.set_other hne'] at hb'
        exact h.inj id id' r r' b (hR id r hne hi) (hR id' r' hne' hi') hb hb'
  · exact Nat.lt_of_not_le fun hle => hb (hO b hle)

/-- a row is turned in its place -/
theorem RowsOk.turn {w' : World} {id : Nat} {r0 row : Row} {b0 : Nat} (h : RowsOk Own σ S w R) (hid : R id = some r0) (hb0 : Loc.has (σ id) b0)
    (hw : ∀ b, b ≠ b0 → w'.heap[b]? = w.heap[b]?) (hS : Same w w') (hr : (∀ b, S b → w'.heap[b]? = w.heap[b]?) → RowOk σ S w' id row) :
    RowsOk Own σ S w' (updR [(id, some row)] R) ∧ Ext Own σ S w σ S w' := by
  obtain ⟨hnS, hOwn⟩ := h.apart id r0 b0 hid hb0
  have hkeep : ∀ b, S b → w'.heap[b]? = w.heap[b]? := fun b hb => hw b (by rintro rfl; exact hnS hb)
  have hR : ∀ j r, j ≠ id → updR [(id, some row)] R j = some r → R j = some r := fun j r hne hi => by simpa [updR, Ne.symm hne] using hi
  have hR' : ∀ j r, updR [(id, some row)] R j = some r → ∃ r', R j = some r' := fun j r hi => by
    by_cases hne : j = id
    · subst hne; exact ⟨r0, hid⟩
    · exact ⟨r, hR j r hne hi⟩
  refine ⟨⟨fun j r hi => ?_, fun j r b hi hb => ?_, fun j j' r r' b hi hi' hb hb' => ?_, fun b hb => Nat.lt_of_lt_of_le (h.old b hb) hS.size⟩, Ids.le_refl σ, fun _ h => h, hkeep, fun b hb => hw b ?_, hS, fun _ h => .inl h⟩
  · by_cases hne : j = id
    · subst hne
      simp [updR] at hi
      subst hi; exact hr hkeep
    · have hi' := hR j r hne hi
      refine (h.ok j r hi').mono (Ids.le_refl σ) (fun _ h => h) hkeep fun b hb => hw b ?_
      rintro rfl
      exact hne (h.inj j id r r0 b hi' hid hb hb0)
  · obtain ⟨r', hi'⟩ := hR' j r hi
    exact h.apart j r' b hi' hb
  · obtain ⟨q, hq⟩ := hR' j r hi
    obtain ⟨q', hq'⟩ := hR' j' r' hi'
    exact h.inj j j' q q' b hq hq' hb hb'
  · rintro rfl; exact hb hOwn

/-- rows that are looked at for ever -/
def Locked (σ : Ids) (S : Nat → Prop) (R : Nat → Option Row) (ids : List Nat) (b : Nat) : Prop := S b ∨ ∃ id ∈ ids, (∃ r, R id = some r) ∧ Loc.has (σ id) b

theorem updR_gone (ids : List Nat) (R : Nat → Option Row) (k : Nat) : updR (gone ids) R k = if k ∈ ids then none else R k := by
  induction ids with
  | nil => simp [gone, updR]
  | cons i ids ih =>
    simp only [gone, List.map_cons, updR] at ih ⊢
    by_cases h : i = k
    · simp [h]
    · simp only [h, if_false, ih, List.mem_cons, Ne.symm h, false_or]

theorem RowsOk.lock (h : RowsOk Own σ S w R) (ids : List Nat) :
    RowsOk Own σ (Locked σ S R ids) w (updR (gone ids) R) ∧ Ext Own σ S w σ (Locked σ S R ids) w := by
  have hR : ∀ id r, updR (gone ids) R id = some r → R id = some r ∧ id ∉ ids := fun id r hi => by
    rw [updR_gone] at hi
    split at hi
    · cases hi
    · exact ⟨hi, by assumption⟩
  have hext : Ext Own σ S w σ (Locked σ S R ids) w := ⟨Ids.le_refl σ, fun _ h => .inl h, fun _ _ => rfl, fun _ _ => rfl, Same.refl w, fun b hb => hb.elim .inl fun ⟨id, _, ⟨r, hr⟩, hb⟩ => .inr (h.apart id r b hr hb).2⟩
  refine ⟨⟨fun id r hi => (h.ok id r (hR id r hi).1).mono (Ids.le_refl σ) (fun _ h => .inl h) (fun _ _ => rfl) fun _ _ => rfl, fun id r b hi hb => ?_,
    fun id id' r r' b hi hi' => h.inj id id' r r' b (hR id r hi).1 (hR id' r' hi').1, fun b hb => ?_⟩, hext⟩
  · obtain ⟨hi1, hi2⟩ := hR id r hi
    obtain ⟨h1, h2⟩ := h.apart id r b hi1 hb
    refine ⟨?_, h2⟩
    rintro (h3 | ⟨j, hj, ⟨q, hq⟩, hjb⟩)
    · exact h1 h3
    · exact hi2 (h.inj id j r q b hi1 hq hb hjb ▸ hj)
  · rcases hb with hb | ⟨j, _, ⟨q, hq⟩, hjb⟩
    · exact h.old b hb
    · exact h.lt hq hjb

/-! ## Freezing -/

theorem Locked.mono {ids ids' : List Nat} (h : ∀ i ∈ ids, i ∈ ids') {b : Nat} (hb : Locked σ S R ids b) : Locked σ S R ids' b := by
  rcases hb with hb | ⟨id, hid, rest⟩
  · exact .inl hb
  · exact .inr ⟨id, h id hid, rest⟩

theorem RelI.lockMono {ids ids' : List Nat} (h : ∀ i ∈ ids, i ∈ ids') {v : Value} {a : AV} (hr : RelI (Locked σ S R ids) w v a) : RelI (Locked σ S R ids') w v a :=
  hr.mono (fun _ hb => hb.mono h) fun _ _ => rfl

theorem frz_scalar {d : Nat} {a a' : AV} {ids : List Nat} (h : frz R d a = some (a', ids)) (hs : a.scalar = true) : a'.scalar = true := by
  cases d with
  | zero => simp [frz] at h
  | succ d =>
    unfold frz at h
    split at h
    all_goals first
      | (simp only [Option.some.injEq, Prod.mk.injEq] at h; obtain ⟨rfl, rfl⟩ := h; first | exact hs | rfl)
      | (simp [AV.scalar] at hs; done)
      | skip
    · split at h
      · split at h
        · simp only [Option.some.injEq, Prod.mk.injEq] at h; obtain ⟨rfl, rfl⟩ := h; rfl
        · cases h
      · cases h
    · split at h
      · split at h
        · split at h
          · simp only [Option.some.injEq, Prod.mk.injEq] at h; obtain ⟨rfl, rfl⟩ := h; rfl
          · cases h
        · cases h
      · split at h
        · simp only [Option.some.injEq, Prod.mk.injEq] at h; obtain ⟨rfl, rfl⟩ := h; rfl
        · cases h
      · cases h
    · split at h
      · simp only [Option.some.injEq, Prod.mk.injEq] at h; obtain ⟨rfl, rfl⟩ := h; rfl
      · cases h
    · cases h

theorem frzL_spec {f : AV → Option (AV × List Nat)} : ∀ {cs cs' : List AV} {ids : List Nat}, frzL f cs = some (cs', ids) →
    cs'.length = cs.length ∧ ∀ (i : Nat) c c', cs[i]? = some c → cs'[i]? = some c' → ∃ j, f c = some (c', j) ∧ ∀ x ∈ j, x ∈ ids
  | [], cs', ids, h => by simp [frzL] at h; obtain ⟨rfl, rfl⟩ := h; simp
  | c :: r, cs', ids, h => by
    simp only [frzL] at h
    split at h
    · cases h
    · rename_i c1 i1 hc
      split at h
      · cases h
      · rename_i r1 j1 hr
        simp only [Option.some.injEq, Prod.mk.injEq] at h
        obtain ⟨rfl, rfl⟩ := h
        obtain ⟨h1, h2⟩ := frzL_spec hr
        refine ⟨by simp [h1], fun i x x' hx hx' => ?_⟩
        cases i with
        | zero => simp at hx hx'; subst hx hx'; exact ⟨i1, hc, fun x hx => List.mem_append_left _ hx⟩
        | succ i =>
          simp at hx hx'
          obtain ⟨j, hj, hm⟩ := h2 i x x' hx hx'
          exact ⟨j, hj, fun x hx => List.mem_append_right _ (hm x hx)⟩

/-- a slice of a row, looked at -/
theorem RelI.of_row {id off len sz cap : Nat} {a : Addr} {es : List AV} (hR : RowsOk Own σ S w R) (hr : R id = some (.arr sz es)) (hl : off + len ≤ es.length)
    (h : RelV σ S w (.slice (some a) len cap) (.slice id off len)) : RelI (Locked σ S R [id]) w (.slice (some a) len cap) (.list sz ((es.drop off).take len)) := by
  by_cases hz : len = 0
  · subst hz; simp only [List.take_zero]; exact .list0 _ _ _
  · have hlen : ((es.drop off).take len).length = len := by simp; omega
    have hk := hR.ok id _ hr
    cases h with
    | imm h => cases h
    | sliceV id a h => exact absurd rfl hz
    | slice id off len cap b' sz' n' c' a h h1 h2 h3 h4 =>
      rcases hk with ⟨hk, _⟩ | ⟨b, c, cs, t, hk, hh, hs, hn, _, hp, he, hf⟩
      · rw [hk] at h; cases h
      · have e := hk.symm.trans h
        simp only [Option.some.injEq, Loc.row.injEq] at e
        obtain ⟨rfl, rfl, rfl, rfl⟩ := e
        obtain rfl := h4 (by omega)
        have hee : ∀ e ∈ (es.drop off).take len, Elem sz e := fun e hm => he e (List.mem_of_mem_drop (List.mem_of_mem_take hm))
        have key : RelI (Locked σ S R [id]) w (.slice (some ⟨b, off * sz, none⟩) ((es.drop off).take len).length cap) (.list sz ((es.drop off).take len)) := by
          refine .list b (off * sz) sz cap _ (fun i => cs.getD (off * sz + i) undef) (.inr ⟨id, by simp, ⟨_, hr⟩, ⟨_, hk, rfl⟩⟩) (by omega) hee (fun i hi => ?_) (fun i x hx => ?_)
          · rw [cell_of_row w b _ cs t (0, 0) hh]
            rw [hlen] at hi
            have : off * sz + i < cs.size := by
              have : off * sz + len * sz ≤ c * sz := by rw [← Nat.add_mul]; exact Nat.mul_le_mul_right _ (by omega)
              omega
            simp [this]
          · have hx' : (flat es)[off * sz + i]? = some x := by
              have h1 := hx
              rw [flat_take (fun e hm => he e (List.mem_of_mem_drop hm)), flat_drop he] at h1
              have := List.getElem?_take (l := List.drop (off * sz) (flat es)) (i := len * sz) (j := i)
              rw [this] at h1
              split at h1
              · rw [List.getElem?_drop] at h1; exact h1
              · cases h1
            obtain ⟨v, hv, hrel⟩ := hf _ x hx'
            have : cs.getD (off * sz + i) undef = v := by simp [Array.getD_eq_getD_getElem?, hv]
            rw [this]
            exact hrel.mono (fun _ h => .inl h) fun _ _ => rfl
        rw [hlen] at key
        exact key

theorem frz_sound (hR : RowsOk Own σ S w R) : ∀ (d : Nat) {a a' : AV} {ids : List Nat} {v : Value}, frz R d a = some (a', ids) → RelV σ S w v a → RelI (Locked σ S R ids) w v a'
  | 0, a, a', ids, v, h, _ => by simp [frz] at h
  | d + 1, a, a', ids, v, h, hv => by
    have imm : ∀ {a : AV}, RelI S w v a → RelI (Locked σ S R []) w v a := fun h => h.mono (fun _ h => .inl h) fun _ _ => rfl
    have many : ∀ {cs cs' : List AV} {ids : List Nat} {vs : Array Value}, frzL (frz R d) cs = some (cs', ids) → vs.size = cs.length →
        (∀ (i : Nat) v c, vs[i]? = some v → cs[i]? = some c → RelV σ S w v c) →
        vs.size = cs'.length ∧ ∀ (i : Nat) v c, vs[i]? = some v → cs'[i]? = some c → RelI (Locked σ S R ids) w v c := by
      intro cs cs' ids vs hf hl hr
      obtain ⟨h1, h2⟩ := frzL_spec hf
      refine ⟨by omega, fun i v c hi hc => ?_⟩
      have hlt : i < cs.length := by
        have := (Array.getElem?_eq_some_iff.1 hi).1
        omega
      obtain ⟨j, hj, hm⟩ := h2 i cs[i] c (List.getElem?_eq_getElem hlt) hc
      exact (frz_sound hR d hj (hr i v _ hi (List.getElem?_eq_getElem hlt))).lockMono hm
    cases a with
    | int k n => simp [frz] at h; obtain ⟨rfl, rfl⟩ := h; cases hv; exact imm ‹_›
    | bool b => simp [frz] at h; obtain ⟨rfl, rfl⟩ := h; cases hv; exact imm ‹_›
    | any => simp [frz] at h; obtain ⟨rfl, rfl⟩ := h; exact .any v
    | const u => simp [frz] at h; obtain ⟨rfl, rfl⟩ := h; cases hv; exact imm ‹_›
    | list sz es => simp [frz] at h; obtain ⟨rfl, rfl⟩ := h; cases hv; exact imm ‹_›
    | iptr e o => simp [frz] at h; obtain ⟨rfl, rfl⟩ := h; cases hv; exact imm ‹_›
    | nilS sz =>
      simp [frz] at h; obtain ⟨rfl, rfl⟩ := h
      cases hv with
      | imm h => cases h; exact .list0 _ _ _
    | slice id off len =>
      simp only [frz] at h
      split at h
      · rename_i sz es hr
        split at h
        · rename_i hl
          simp only [Option.some.injEq, Prod.mk.injEq] at h; obtain ⟨rfl, rfl⟩ := h
          cases hv with
          | imm h => cases h
          | sliceV id a h => simp only [List.take_zero]; exact .list0 _ _ _
          | slice id off len cap b sz' n c a h h1 h2 h3 h4 => exact RelI.of_row hR hr hl (.slice id off len cap b sz' n c a h h1 h2 h3 h4)
        · cases h
      · cases h
    | ptr id idx off =>
      simp only [frz] at h
      split at h
      · rename_i cs hr
        split at h
        · rename_i hz
          subst hz
          split at h
          · rename_i cs' ids' hf
            simp only [Option.some.injEq, Prod.mk.injEq] at h; obtain ⟨rfl, rfl⟩ := h
            obtain ⟨b, cells, t, hk, hh, hs, hsc, hrel⟩ := hR.ok id _ hr
            cases hv with
            | imm h => cases h
            | ptr id idx off b' sz n c h h1 =>
              rw [hk] at h; cases h
              obtain ⟨m1, m2⟩ := many (vs := cells) hf hs (fun i v c hv hc => by
                obtain ⟨v', hv', hr'⟩ := hrel i c hc
                rw [hv] at hv'; cases hv'; exact hr')
              have key : RelI (Locked σ S R (id :: ids')) w (.pointer (some ⟨b, 0 + off, none⟩)) (.iptr (.agg cs') off) := by
                refine .iptr b 0 off (.agg cs') (fun i => cells.getD i undef) (.inr ⟨id, by simp, ⟨_, hr⟩, ⟨_, hk, rfl⟩⟩) ?_ ?_ ?_
                · intro c hc
                  obtain ⟨i, hi, hic⟩ := List.getElem_of_mem hc
                  obtain ⟨q1, q2⟩ := frzL_spec hf
                  have hic' : cs'[i]? = some c := by rw [← hic]; exact List.getElem?_eq_getElem hi
                  have hlt : i < cs.length := by simp [AV.cells] at hi; omega
                  obtain ⟨j, hj, _⟩ := q2 i cs[i] c (List.getElem?_eq_getElem hlt) hic'
                  exact frz_scalar hj (hsc _ (List.getElem_mem hlt))
                · intro i hi
                  simp only [AV.cells] at hi
                  rw [Nat.zero_add, cell_of_row w b _ cells t (0, 0) hh]
                  have : i < cells.size := by omega
                  simp [this]
                · intro i c hc
                  simp only [AV.cells] at hc
                  have : i < cells.size := by have := (List.getElem?_eq_some_iff.1 hc).1; omega
                  have e : cells.getD i undef = cells[i] := by simp [this]
                  rw [e]
                  exact (m2 i cells[i] c (Array.getElem?_eq_getElem this) hc).lockMono fun x hx => List.mem_cons_of_mem _ hx
              simpa using key
          · cases h
        · cases h
      · rename_i sz es hr
        split at h
        · rename_i e he
          simp only [Option.some.injEq, Prod.mk.injEq] at h; obtain ⟨rfl, rfl⟩ := h
          cases hv with
          | imm h => cases h
          | ptr id idx off b' sz' n c h h1 =>
            rcases hR.ok id _ hr with ⟨hk, _⟩ | ⟨b, c', cells, t, hk, hh, hs, hn, _, hp, hel, hf⟩
            · rw [hk] at h; cases h
            · have q := hk.symm.trans h
              simp only [Option.some.injEq, Loc.row.injEq] at q
              obtain ⟨rfl, rfl, rfl, rfl⟩ := q
              have hee := hel e (List.mem_of_getElem? he)
              refine .iptr b (idx * sz) off e (fun i => cells.getD (idx * sz + i) undef) (.inr ⟨id, by simp, ⟨_, hr⟩, ⟨_, hk, rfl⟩⟩) hee.2 (fun i hi => ?_) (fun i x hx => ?_)
              · rw [cell_of_row w b _ cells t (0, 0) hh]
                rw [hee.1] at hi
                have : idx * sz + i < cells.size := by
                  have : idx * sz + 1 * sz ≤ c' * sz := by rw [← Nat.add_mul]; exact Nat.mul_le_mul_right _ (by omega)
                  omega
                simp [this]
              · have hi : i < sz := by rw [← hee.1]; exact (List.getElem?_eq_some_iff.1 hx).1
                have := flat_get hel he hi
                rw [hx] at this
                obtain ⟨v, hv, hrel⟩ := hf _ x this
                have e1 : cells.getD (idx * sz + i) undef = v := by simp [Array.getD_eq_getD_getElem?, hv]
                rw [e1]
                exact hrel.mono (fun _ h => .inl h) fun _ _ => rfl
        · cases h
      · cases h
    | mapp id => simp [frz] at h
    | agg cs =>
      simp only [frz] at h
      split at h
      · rename_i cs' ids' hf
        simp only [Option.some.injEq, Prod.mk.injEq] at h; obtain ⟨rfl, rfl⟩ := h
        cases hv with
        | imm h =>
          cases h with
          | agg vs _ hl hr =>
            obtain ⟨m1, m2⟩ := many hf hl fun i v c hi hc => .imm (hr i v c hi hc)
            exact .agg vs cs' m1 m2
        | agg vs _ hl hr =>
          obtain ⟨m1, m2⟩ := many hf hl hr
          exact .agg vs cs' m1 m2
      · cases h
    | tuple vs => simp [frz] at h
    | func f cap =>
      simp only [frz] at h
      split at h
      · rename_i cs' ids' hf
        simp only [Option.some.injEq, Prod.mk.injEq] at h; obtain ⟨rfl, rfl⟩ := h
        cases hv with
        | imm h =>
          cases h with
          | func _ vs _ hl hr =>
            obtain ⟨m1, m2⟩ := many hf hl fun i v c hi hc => .imm (hr i v c hi hc)
            exact .func f vs cs' m1 m2
        | func _ vs _ hl hr =>
          obtain ⟨m1, m2⟩ := many hf hl hr
          exact .func f vs cs' m1 m2
      · cases h
    | own sz es => simp [frz] at h
    | bor cs => simp [frz] at h
    | borS sz es => simp [frz] at h

/-! ## Inversions -/

theorem RelV.int_inv {v : Value} {k : IntKind} {n : Int} (h : RelV σ S w v (.int k n)) : v = .int k n := by
  cases h with | imm h => cases h; rfl
theorem RelV.bool_inv {v : Value} {b : Bool} (h : RelV σ S w v (.bool b)) : v = .bool b := by
  cases h with | imm h => cases h; rfl

/-! ## Operands -/

theorem ofCell_rel (sh : Option Nat) (v : Value) : RelI S w v (ofCell sh v) := by
  unfold ofCell
  split
  · exact .nil _ _
  · exact .int _ _
  · exact .bool _
  · exact .const _

theorem ofCells_rel : ∀ {sh : List (Option Nat)} {vs : List Value} {as : List AV}, ofCells sh vs = some as →
    vs.length = as.length ∧ ∀ (i : Nat) v c, vs[i]? = some v → as[i]? = some c → RelI S w v c
  | [], [], as, h => by simp [ofCells] at h; subst h; simp
  | s :: ss, v :: vs, as, h => by
    simp only [ofCells] at h
    split at h
    · rename_i r hr
      simp at h; subst h
      obtain ⟨h1, h2⟩ := ofCells_rel hr
      refine ⟨by simp [h1], fun i x c hx hc => ?_⟩
      cases i with
      | zero => simp at hx hc; subst hx hc; exact ofCell_rel s v
      | succ i => simp at hx hc; exact h2 i x c hx hc
    · cases h
  | [], _ :: _, as, h => by simp [ofCells] at h
  | _ :: _, [], as, h => by simp [ofCells] at h

theorem ofVal_rel {P : Program} {t : TypeId} {v : Value} {a : AV} (h : ofVal P t v = some a) : RelI S w v a := by
  unfold ofVal at h
  split at h
  · split at h
    · rename_i cs
      simp only [Option.map_eq_some_iff] at h
      obtain ⟨as, h1, rfl⟩ := h
      obtain ⟨h2, h3⟩ := ofCells_rel (S := S) (w := w) h1
      exact .agg cs as (by simpa using h2) fun i x c hx hc => h3 i x c (by simpa using hx) hc
    · split at h
      · simp at h; subst h; exact ofCell_rel _ _
      · cases h
  · cases h

/-- the temporaries -/
def TmpsOk (σ : Ids) (S : Nat → Prop) (w : World) (T : Nat → Option AV) (a : Act) : Prop :=
  ∀ t x, T t = some x → RelV σ S w (a.tmps.getD t undef) x

theorem opd_sound {P : Program} {t : Option TypeId} {x : Operand} {ao : AOpd} {av : AV} {T : Nat → Option AV} {a : Act} (hT : TmpsOk σ S w T a)
    (h : opd P t x = some ao) (hg : getO T ao = some av) : RelV σ S w (a.eval x) av := by
  unfold opd at h
  split at h
  · simp at h; subst h; exact hT _ _ hg
  · simp at h; subst h; simp [getO] at hg; subst hg; exact .imm (.int _ _)
  · simp at h; subst h; simp [getO] at hg; subst hg; exact .imm (.bool _)
  · split at h
    · simp only [Option.map_eq_some_iff] at h
      obtain ⟨av', h1, rfl⟩ := h
      simp [getO] at hg; subst hg
      exact .imm (ofVal_rel h1)
    · cases h
  · simp at h; subst h; simp [getO] at hg; subst hg
    exact .imm (.func _ #[] [] rfl (by simp))
  · cases h

end
end Go.Abs
