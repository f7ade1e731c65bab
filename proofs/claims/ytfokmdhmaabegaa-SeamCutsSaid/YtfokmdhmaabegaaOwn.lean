/-
  What is handed over at a call: values that own blocks; how rows are handed over, and how they are taken in.
-/
import Derived.Test.YtfokmdhmaabegaaOps7
set_option linter.all false
namespace Go.Abs

/-- a slice that owns its block -/
def OwnS (S : Nat → Prop) (w : World) (v : Value) (sz : Nat) (es : List AV) (bs : List Nat) : Prop :=
  (∃ a, v = .slice a 0 0 ∧ es = []) ∨
  ∃ b cap cs t, v = .slice (some ⟨b, 0, none⟩) es.length cap ∧ bs = [b] ∧ w.heap[b]? = some (.cells cs t (0, 0)) ∧ cap * sz ≤ cs.size ∧ es.length ≤ cap ∧ 0 < cap ∧ cap ≤ maxLen ∧ 0 < sz ∧
    (∀ e ∈ es, Elem sz e) ∧ ∀ (i : Nat) x, (flat es)[i]? = some x → ∃ u, cs[i]? = some u ∧ RelI S w u x

def OwnC (S : Nat → Prop) (w : World) (v : Value) (a : AV) (bs : List Nat) : Prop :=
  match a with
  | .own sz es => OwnS S w v sz es bs
  | a => bs = [] ∧ RelI S w v a

def LiftL (Rel : Value → AV → List Nat → Prop) : List Value → List AV → List Nat → Prop
  | [], [], bs => bs = []
  | v :: vs, a :: as, bs => ∃ b1 b2, Rel v a b1 ∧ LiftL Rel vs as b2 ∧ bs = b1 ++ b2
  | _, _, _ => False

def OwnI (S : Nat → Prop) (w : World) (v : Value) (a : AV) (bs : List Nat) : Prop :=
  match a with
  | .agg cs => ∃ vs, v = .agg vs ∧ LiftL (OwnC S w) vs.toList cs bs
  | a => OwnC S w v a bs

def OwnR (S : Nat → Prop) (w : World) (v : Value) (a : AV) (bs : List Nat) : Prop :=
  match a with
  | .tuple as => ∃ vs, v = .tuple vs ∧ LiftL (OwnI S w) vs.toList as bs
  | a => OwnI S w v a bs

/-- an argument: looked at, or lent -/
def ArgR (S : Nat → Prop) (w : World) (v : Value) (a : AV) (bs : List Nat) : Prop :=
  match a with
  | .bor cs => ∃ b cells t bs', v = .pointer (some ⟨b, 0, none⟩) ∧ bs = b :: bs' ∧ w.heap[b]? = some (.cells cells t (0, 0)) ∧ cells.size = cs.length ∧ LiftL (OwnC S w) cells.toList cs bs' ∧
      ∀ x ∈ cs, x.scalar = true ∨ ∃ sz es, x = .own sz es
  | .borS sz es => OwnS S w v sz es bs
  | a => bs = [] ∧ RelI S w v a

section
variable {P : Program} {Own : Nat → Prop} {σ : Ids} {S : Nat → Prop} {w : World} {R : Nat → Option Row}

theorem LiftL.length {Rel : Value → AV → List Nat → Prop} : ∀ {vs : List Value} {as : List AV} {bs : List Nat}, LiftL Rel vs as bs → vs.length = as.length
  | [], [], _, _ => rfl
  | _ :: _, _ :: _, _, h => by obtain ⟨_, _, _, h2, _⟩ := h; simp [h2.length]
  | [], _ :: _, _, h => h.elim
  | _ :: _, [], _, h => h.elim

theorem LiftL.mono {Rel Rel' : Value → AV → List Nat → Prop} (hr : ∀ v a bs, Rel v a bs → Rel' v a bs) : ∀ {vs : List Value} {as : List AV} {bs : List Nat}, LiftL Rel vs as bs → LiftL Rel' vs as bs
  | [], [], _, h => h
  | _ :: _, _ :: _, _, h => by obtain ⟨b1, b2, h1, h2, h3⟩ := h; exact ⟨b1, b2, hr _ _ _ h1, h2.mono hr, h3⟩
  | [], _ :: _, _, h => h.elim
  | _ :: _, [], _, h => h.elim

/-! ## Handing over -/

/-- the blocks of rows -/
def blocksOf (σ : Ids) (ids : List Nat) : List Nat := ids.filterMap fun id => (σ id).bind Loc.block

theorem blocksOf_append (σ : Ids) (a b : List Nat) : blocksOf σ (a ++ b) = blocksOf σ a ++ blocksOf σ b := by simp [blocksOf]

theorem mem_blocksOf {ids : List Nat} {b : Nat} (h : b ∈ blocksOf σ ids) : ∃ id ∈ ids, Loc.has (σ id) b := by
  simp only [blocksOf, List.mem_filterMap] at h
  obtain ⟨id, hid, hb⟩ := h
  refine ⟨id, hid, ?_⟩
  cases hσ : σ id with
  | none => simp [hσ] at hb
  | some l => rw [hσ] at hb; exact ⟨l, rfl, hb⟩

theorem row_own {id off len sz : Nat} {es : List AV} {v : Value} (hR : RowsOk Own σ S w R) (hr : R id = some (.arr sz es)) (h0 : off = 0) (hl : len = es.length) (hv : RelV σ S w v (.slice id off len)) :
    OwnS S w v sz es (blocksOf σ [id]) := by
  subst h0
  rcases hR.ok id _ hr with ⟨hk, rfl⟩ | ⟨b, c, cs, t, hk, hh, hs, hn, hm, hp, he, hf⟩
  · left
    cases hv with
    | imm hv => cases hv
    | sliceV id a h => exact ⟨a, rfl, rfl⟩
    | slice id off len cap b sz' n c a h => rw [hk] at h; cases h
  · cases hv with
    | imm hv => cases hv
    | sliceV id a h => rw [hk] at h; cases h
    | slice id off len cap b' sz' n' c' a h h1 h2 h3 h4 =>
      have q := hk.symm.trans h
      simp only [Option.some.injEq, Loc.row.injEq] at q
      obtain ⟨rfl, rfl, rfl, rfl⟩ := q
      subst hl
      by_cases hc : cap = 0
      · left
        have : es = [] := List.eq_nil_of_length_eq_zero (by omega)
        subst this hc
        exact ⟨some a, rfl, rfl⟩
      · right
        have ha := h4 hc
        rw [Nat.zero_mul] at ha
        subst ha
        rw [Nat.zero_add] at h3
        subst h3
        exact ⟨b, cap, cs, t, rfl, by simp [blocksOf, hk, Loc.block], hh, hs, by omega, by omega, hm, hp, he, hf⟩

theorem OwnS.lock {v : Value} {sz : Nat} {es : List AV} {bs ids : List Nat} (h : OwnS S w v sz es bs) : OwnS (Locked σ S R ids) w v sz es bs := by
  rcases h with h | ⟨b, cap, cs, t, h1, h2, h3, h4, h5, h6, h7, h8, h10, h11⟩
  · exact .inl h
  · exact .inr ⟨b, cap, cs, t, h1, h2, h3, h4, h5, h6, h7, h8, h10, fun i x hx => by obtain ⟨u, q1, q2⟩ := h11 i x hx; exact ⟨u, q1, q2.mono (fun _ h => .inl h) fun _ _ => rfl⟩⟩

theorem OwnS.mono {S' : Nat → Prop} {v : Value} {sz : Nat} {es : List AV} {bs : List Nat} (hS : ∀ b, S b → S' b) (h : OwnS S w v sz es bs) : OwnS S' w v sz es bs := by
  rcases h with h | ⟨b, cap, cs, t, h1, h2, h3, h4, h5, h6, h7, h8, h10, h11⟩
  · exact .inl h
  · exact .inr ⟨b, cap, cs, t, h1, h2, h3, h4, h5, h6, h7, h8, h10, fun i x hx => by obtain ⟨u, q1, q2⟩ := h11 i x hx; exact ⟨u, q1, q2.mono hS fun _ _ => rfl⟩⟩

theorem OwnC.mono {S' : Nat → Prop} {v : Value} {a : AV} {bs : List Nat} (hS : ∀ b, S b → S' b) (h : OwnC S w v a bs) : OwnC S' w v a bs := by
  unfold OwnC at *
  split at h
  · exact OwnS.mono hS h
  · exact ⟨h.1, h.2.mono hS fun _ _ => rfl⟩

theorem OwnI.mono {S' : Nat → Prop} {v : Value} {a : AV} {bs : List Nat} (hS : ∀ b, S b → S' b) (h : OwnI S w v a bs) : OwnI S' w v a bs := by
  unfold OwnI at *
  split at h
  · obtain ⟨vs, h1, h2⟩ := h; exact ⟨vs, h1, h2.mono fun _ _ _ => OwnC.mono hS⟩
  · exact h.mono hS

theorem OwnR.mono {S' : Nat → Prop} {v : Value} {a : AV} {bs : List Nat} (hS : ∀ b, S b → S' b) (h : OwnR S w v a bs) : OwnR S' w v a bs := by
  unfold OwnR at *
  split at h
  · obtain ⟨vs, h1, h2⟩ := h; exact ⟨vs, h1, h2.mono fun _ _ _ => OwnI.mono hS⟩
  · exact h.mono hS

theorem ArgR.mono {S' : Nat → Prop} {v : Value} {a : AV} {bs : List Nat} (hS : ∀ b, S b → S' b) (h : ArgR S w v a bs) : ArgR S' w v a bs := by
  unfold ArgR at *
  split at h
  · obtain ⟨b, cells, t, bs', h1, h2, h3, h4, h5, h6⟩ := h; exact ⟨b, cells, t, bs', h1, h2, h3, h4, h5.mono fun _ _ _ => OwnC.mono hS, h6⟩
  · exact OwnS.mono hS h
  · exact ⟨h.1, h.2.mono hS fun _ _ => rfl⟩

/-- no frozen value is one that owns -/
theorem frz_notOwn {d : Nat} {a a' : AV} {ids : List Nat} (h : frz R d a = some (a', ids)) : (∀ sz es, a' ≠ .own sz es) ∧ (∀ cs, a' ≠ .bor cs) ∧ (∀ sz es, a' ≠ .borS sz es) ∧ (∀ cs, a' ≠ .tuple cs) ∧ ((∀ cs, a ≠ .agg cs) → ∀ cs, a' ≠ .agg cs) := by
  cases d with
  | zero => simp [frz] at h
  | succ d =>
    cases a <;> simp only [frz] at h
    all_goals first
      | (cases h; done)
      | (simp only [Option.some.injEq, Prod.mk.injEq] at h; obtain ⟨rfl, _⟩ := h; simp; done)
      | skip
    all_goals
      (repeat' split at h) <;> first
        | (cases h; done)
        | (simp only [Option.some.injEq, Prod.mk.injEq] at h; obtain ⟨rfl, _⟩ := h; simp)

theorem exCell_sound (hR : RowsOk Own σ S w R) {a : AV} {x : Ex} {v : Value} (h : exCell R a = some x) (hv : RelV σ S w v a) : OwnC (Locked σ S R x.fz) w v x.v (blocksOf σ x.mv) := by
  unfold exCell at h
  split at h
  · simp at h; subst h
    cases hv with | imm hv => cases hv; exact .inl ⟨_, rfl, rfl⟩
  · rename_i id off len
    split at h
    · rename_i sz es hr
      split at h
      · rename_i hc
        simp at h; subst h
        exact (row_own hR hr hc.1 hc.2 hv).lock
      · split at h
        · rename_i hle
          simp at h; subst h
          refine ⟨rfl, ?_⟩
          cases hv with
          | imm h => cases h
          | sliceV id a h => simp only [List.take_zero]; exact .list0 _ _ _
          | slice id off len cap b sz' n c a h h1 h2 h3 h4 => exact RelI.of_row hR hr hle (.slice id off len cap b sz' n c a h h1 h2 h3 h4)
        · cases h
    · cases h
  · cases h
  · cases h
  · split at h
    · rename_i v' ids hf
      simp at h; subst h
      have := frz_sound hR _ hf hv
      have hno := (frz_notOwn hf).1
      unfold OwnC
      split
      · rename_i sz es heq; exact absurd heq (hno sz es)
      · exact ⟨rfl, this⟩
    · cases h

theorem Locked.weaken {ids ids' : List Nat} (h : ∀ i ∈ ids, i ∈ ids') : ∀ b, Locked σ S R ids b → Locked σ S R ids' b := fun _ hb => hb.mono h

theorem exL_sound {f : AV → Option Ex} {Rel : (Nat → Prop) → Value → AV → List Nat → Prop} (hmono : ∀ S S' v a bs, (∀ b, S b → S' b) → Rel S v a bs → Rel S' v a bs)
    (hf : ∀ a x v, f a = some x → RelV σ S w v a → Rel (Locked σ S R x.fz) v x.v (blocksOf σ x.mv)) : ∀ {as : List AV} {vs : List Value} {r : List AV × List Nat × List Nat}, exL f as = some r →
    vs.length = as.length → (∀ (i : Nat) v c, vs[i]? = some v → as[i]? = some c → RelV σ S w v c) → LiftL (Rel (Locked σ S R r.2.2)) vs r.1 (blocksOf σ r.2.1)
  | [], [], r, h, _, _ => by simp [exL] at h; subst h; simp [LiftL, blocksOf]
  | [], _ :: _, r, _, hl, _ => by simp at hl
  | _ :: _, [], r, _, hl, _ => by simp at hl
  | a :: as, v :: vs, r, h, hl, hr => by
    simp only [exL] at h
    split at h
    · cases h
    · rename_i x hx
      split at h
      · cases h
      · rename_i ys m z hy
        simp at h; subst h
        have h1 := hf a x v hx (hr 0 v a rfl rfl)
        have h2 := exL_sound hmono hf hy (by simpa using hl) (fun i v c hv hc => hr (i + 1) v c (by simpa using hv) (by simpa using hc))
        refine ⟨_, _, hmono _ _ _ _ _ (Locked.weaken fun i hi => List.mem_append_left _ hi) h1, h2.mono fun _ _ _ => hmono _ _ _ _ _ (Locked.weaken fun i hi => List.mem_append_right _ hi), ?_⟩
        simp [blocksOf_append]

theorem RelV.agg_inv {v : Value} {cs : List AV} (hv : RelV σ S w v (.agg cs)) : ∃ vs, v = .agg vs ∧ vs.size = cs.length ∧ ∀ (i : Nat) v c, vs[i]? = some v → cs[i]? = some c → RelV σ S w v c := by
  cases hv with
  | imm hv => cases hv with | agg vs _ hl hr => exact ⟨vs, rfl, hl, fun i v c h1 h2 => .imm (hr i v c h1 h2)⟩
  | agg vs _ hl hr => exact ⟨vs, rfl, hl, hr⟩

theorem exItem_sound (hR : RowsOk Own σ S w R) {a : AV} {x : Ex} {v : Value} (h : exItem R a = some x) (hv : RelV σ S w v a) : OwnI (Locked σ S R x.fz) w v x.v (blocksOf σ x.mv) := by
  unfold exItem at h
  split at h
  · rename_i cs
    split at h
    · rename_i cs' m z hx
      simp at h; subst h
      obtain ⟨vs, rfl, hl, hr⟩ := hv.agg_inv
      exact ⟨vs, rfl, exL_sound (Rel := fun S => OwnC S w) (fun _ _ _ _ _ => OwnC.mono) (fun a x v h hv => exCell_sound hR h hv) hx (by simpa using hl) (fun i v c h1 h2 => hr i v c (by simpa using h1) h2)⟩
    · cases h
  · rename_i hna
    have hc := exCell_sound hR h hv
    unfold OwnI
    split
    · rename_i cs heq
      exfalso
      unfold exCell at h
      split at h
      · simp at h; subst h; cases heq
      · split at h
        · split at h
          · simp at h; subst h; cases heq
          · split at h
            · simp at h; subst h; cases heq
            · cases h
        · cases h
      · cases h
      · cases h
      · split at h
        · rename_i v' ids hf
          simp at h; subst h
          exact (frz_notOwn hf).2.2.2.2 (fun cs h => hna cs h) cs heq
        · cases h
    · exact hc

theorem exItem_notTuple {a : AV} {x : Ex} (h : exItem R a = some x) : ∀ cs, x.v ≠ .tuple cs := by
  intro cs heq
  unfold exItem at h
  split at h
  · split at h
    · simp at h; subst h; cases heq
    · cases h
  · unfold exCell at h
    split at h
    · simp at h; subst h; cases heq
    · split at h
      · split at h
        · simp at h; subst h; cases heq
        · split at h
          · simp at h; subst h; cases heq
          · cases h
      · cases h
    · cases h
    · cases h
    · split at h
      · rename_i v' ids hf
        simp at h; subst h
        exact (frz_notOwn hf).2.2.2.1 cs heq
      · cases h

theorem exRes_sound (hR : RowsOk Own σ S w R) {a : AV} {x : Ex} {v : Value} (h : exRes R a = some x) (hv : RelV σ S w v a) : OwnR (Locked σ S R x.fz) w v x.v (blocksOf σ x.mv) := by
  unfold exRes at h
  split at h
  · rename_i cs
    split at h
    · rename_i cs' m z hx
      simp at h; subst h
      cases hv with
      | imm hv => cases hv
      | tuple vs _ hl hr =>
        exact ⟨vs, rfl, exL_sound (Rel := fun S => OwnI S w) (fun _ _ _ _ _ => OwnI.mono) (fun a x v h hv => exItem_sound hR h hv) hx (by simpa using hl) (fun i v c h1 h2 => hr i v c (by simpa using h1) h2)⟩
    · cases h
  · have := exItem_sound hR h hv
    unfold OwnR
    split
    · rename_i cs heq; exact absurd heq (exItem_notTuple h cs)
    · exact this

theorem exL_scalars : ∀ {as : List AV} {r : List AV × List Nat × List Nat}, exL (exCell R) as = some r → (∀ x ∈ as, x.scalar = true) → ∀ x ∈ r.1, x.scalar = true ∨ ∃ sz es, x = .own sz es
  | [], r, h, _ => by simp [exL] at h; subst h; simp
  | a :: as, r, h, hs => by
    simp only [exL] at h
    split at h
    · cases h
    · rename_i x hx
      split at h
      · cases h
      · rename_i ys m z hy
        simp at h; subst h
        have ih := exL_scalars hy fun x hx => hs x (List.mem_cons_of_mem _ hx)
        intro q hq
        rcases List.mem_cons.1 hq with rfl | hq
        · have hsa := hs a (List.mem_cons_self ..)
          unfold exCell at hx
          split at hx
          · simp at hx; subst hx; exact .inr ⟨_, _, rfl⟩
          · split at hx
            · split at hx
              · simp at hx; subst hx; exact .inr ⟨_, _, rfl⟩
              · split at hx
                · simp at hx; subst hx; exact .inl rfl
                · cases hx
            · cases hx
          · cases hx
          · cases hx
          · split at hx
            · rename_i v' ids hf
              simp at hx; subst hx
              exact .inl (frz_scalar hf hsa)
            · cases hx
        · exact ih q hq

/-- what is lent to a callee, and what callers get back -/
theorem exBox_sound (hR : RowsOk Own σ S w R) {id : Nat} {cs : List AV} {r : List AV × List Nat × List Nat} {v : Value} (hr : R id = some (.box cs)) (h : exL (exCell R) cs = some r) (hv : RelV σ S w v (.ptr id 0 0)) :
    ArgR (Locked σ S R r.2.2) w v (.bor r.1) (blocksOf σ (id :: r.2.1)) := by
  obtain ⟨b, cells, t, hk, hh, hs, hsc, hrel⟩ := hR.ok id _ hr
  cases hv with
  | imm hv => cases hv
  | ptr id idx off b' sz n c hσ h1 =>
    have q := hk.symm.trans hσ
    simp only [Option.some.injEq, Loc.row.injEq] at q
    obtain ⟨rfl, rfl, rfl, rfl⟩ := q
    have hl := exL_sound (σ := σ) (S := S) (w := w) (R := R) (Rel := fun S => OwnC S w) (fun _ _ _ _ _ => OwnC.mono) (fun a x v h hv => exCell_sound hR h hv) (vs := cells.toList) h (by simpa using hs) (fun i v c h1 h2 => by
      obtain ⟨v', q1, q2⟩ := hrel i c h2
      rw [Array.getElem?_toList] at h1
      rw [h1] at q1; cases q1; exact q2)
    refine ⟨b, cells, t, blocksOf σ r.2.1, by simp, by simp [blocksOf, hk, Loc.block], hh, by have := hl.length; simpa using this, hl, exL_scalars h hsc⟩

end
end Go.Abs
