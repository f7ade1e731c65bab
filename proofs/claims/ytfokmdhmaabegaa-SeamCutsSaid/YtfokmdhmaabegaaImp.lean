/-
  How rows are taken in: behind a call, and at a function's entry.
-/
import Derived.Test.YtfokmdhmaabegaaOwn
set_option linter.all false
namespace Go.Abs

def Ids.union (a b : Ids) : Ids := fun id => match a id with
  | some l => some l
  | none => b id

/-- rows taken in, with numbers of their own -/
structure Imp (S : Nat → Prop) (w : World) (n n' : Nat) (rows : List (Nat × Row)) (bs : List Nat) (τ : Ids) : Prop where
  le : n ≤ n'
  dom : ∀ id l, τ id = some l → n ≤ id ∧ id < n'
  ok : ∀ id r, lk id rows = some r → RowOk τ S w id r
  blk : ∀ id b, Loc.has (τ id) b → b ∈ bs
  inj : bs.Nodup → ∀ id id' b, Loc.has (τ id) b → Loc.has (τ id') b → id = id'

theorem lk_append {α : Type} (k : Nat) (a b : List (Nat × α)) : lk k (a ++ b) = (lk k a).or (lk k b) := by
  induction a with
  | nil => simp [lk]
  | cons p a ih =>
    obtain ⟨j, v⟩ := p
    simp only [List.cons_append, lk]
    split
    · rfl
    · exact ih

section
variable {S : Nat → Prop} {w : World}

theorem Imp.empty (n : Nat) : Imp S w n n [] [] (fun _ => none) :=
  ⟨Nat.le_refl _, by simp, by simp [lk], fun id b h => (by obtain ⟨l, hl, _⟩ := h; cases hl), fun _ id id' b h => (by obtain ⟨l, hl, _⟩ := h; cases hl)⟩

theorem Ids.le_union_left (a b : Ids) : a.le (a.union b) := fun id l h => by simp [Ids.union, h]

theorem Ids.le_union_right {a b : Ids} (h : ∀ id l l', a id = some l → b id = some l' → False) : b.le (a.union b) := fun id l hl => by
  unfold Ids.union
  cases ha : a id with
  | none => exact hl
  | some l' => exact (h id l' l ha hl).elim

theorem RowOk.ids {τ τ' : Ids} (h : τ.le τ') {id : Nat} {r : Row} (hr : RowOk τ S w id r) : RowOk τ' S w id r :=
  hr.mono h (fun _ h => h) (fun _ _ => rfl) fun _ _ => rfl

theorem Ids.has_union {a b : Ids} {id x : Nat} (h : Loc.has ((a.union b) id) x) : Loc.has (a id) x ∨ (a id = none ∧ Loc.has (b id) x) := by
  obtain ⟨l, hl, hb⟩ := h
  unfold Ids.union at hl
  cases ha : a id with
  | none => rw [ha] at hl; exact .inr ⟨rfl, l, hl, hb⟩
  | some l' => rw [ha] at hl; simp only [Option.some.injEq] at hl; subst hl; exact .inl ⟨l', rfl, hb⟩

theorem Imp.append {n n' n'' : Nat} {rows1 rows2 : List (Nat × Row)} {bs1 bs2 : List Nat} {τ1 τ2 : Ids} (h1 : Imp S w n n' rows1 bs1 τ1) (h2 : Imp S w n' n'' rows2 bs2 τ2) :
    Imp S w n n'' (rows1 ++ rows2) (bs1 ++ bs2) (τ1.union τ2) ∧ τ2.le (τ1.union τ2) := by
  have hdis : ∀ id l l', τ1 id = some l → τ2 id = some l' → False := fun id l l' a b => by
    have := h1.dom id l a
    have := h2.dom id l' b
    omega
  have hle2 : τ2.le (τ1.union τ2) := Ids.le_union_right hdis
  refine ⟨⟨Nat.le_trans h1.le h2.le, fun id l hl => ?_, fun id r hr => ?_, fun id b hb => ?_, fun hn id id' b hb hb' => ?_⟩, hle2⟩
  · unfold Ids.union at hl
    cases ha : τ1 id with
    | none => rw [ha] at hl; have := h2.dom id l hl; have := h1.le; omega
    | some l' => have := h1.dom id l' ha; have := h2.le; omega
  · rw [lk_append] at hr
    cases ha : lk id rows1 with
    | none => rw [ha] at hr; exact (h2.ok id r (by simpa using hr)).ids hle2
    | some r' => rw [ha] at hr; simp at hr; subst hr; exact (h1.ok id r' ha).ids (Ids.le_union_left _ _)
  · rcases Ids.has_union hb with hb | ⟨_, hb⟩
    · exact List.mem_append_left _ (h1.blk id b hb)
    · exact List.mem_append_right _ (h2.blk id b hb)
  · obtain ⟨n1, n2, n3⟩ := List.nodup_append.1 hn
    rcases Ids.has_union hb with hb | ⟨_, hb⟩ <;> rcases Ids.has_union hb' with hb' | ⟨_, hb'⟩
    · exact h1.inj n1 id id' b hb hb'
    · exact absurd rfl (n3 b (h1.blk id b hb) b (h2.blk id' b hb'))
    · exact absurd rfl (n3 b (h1.blk id' b hb') b (h2.blk id b hb))
    · exact h2.inj n2 id id' b hb hb'

/-- one row -/
theorem Imp.one {n : Nat} {r : Row} {l : Loc} {bs : List Nat} (hr : RowOk (Ids.set (fun _ => none) n l) S w n r) (hbs : ∀ b, l.block = some b → b ∈ bs) : Imp S w n (n + 1) [(n, r)] bs (Ids.set (fun _ => none) n l) := by
  refine ⟨by omega, fun id l' h => ?_, fun id r' h => ?_, fun id b h => ?_, fun _ id id' b h h' => ?_⟩
  · unfold Ids.set at h
    split at h
    · omega
    · cases h
  · simp only [lk] at h
    split at h
    · rename_i e; subst e; simp at h; subst h; exact hr
    · cases h
  · obtain ⟨l', h1, h2⟩ := h
    unfold Ids.set at h1
    split at h1
    · cases h1; exact hbs b h2
    · cases h1
  · obtain ⟨l1, h1, _⟩ := h
    obtain ⟨l2, h2, _⟩ := h'
    unfold Ids.set at h1 h2
    split at h1
    · split at h2
      · omega
      · cases h2
    · cases h1

theorem OwnS.imp {v : Value} {sz : Nat} {es : List AV} {bs : List Nat} (h : OwnS S w v sz es bs) (n : Nat) :
    ∃ τ, Imp S w n (n + 1) [(n, .arr sz es)] bs τ ∧ RelV τ S w v (.slice n 0 es.length) := by
  rcases h with ⟨a, rfl, rfl⟩ | ⟨b, cap, cs, t, rfl, rfl, h3, h4, h5, h6, h7, h8, h10, h11⟩
  · exact ⟨_, Imp.one (l := .virt) (.inl ⟨Ids.set_self .., rfl⟩) (fun b hb => by cases hb), .sliceV n a (Ids.set_self ..)⟩
  · exact ⟨_, Imp.one (l := .row b sz es.length cap) (.inr ⟨b, cap, cs, t, Ids.set_self .., h3, h4, by omega, h7, h8, h10, h11⟩) (fun b' hb => by cases hb; simp),
      .slice n 0 _ cap b sz es.length cap _ (Ids.set_self ..) (by omega) (by omega) (by omega) (by simp)⟩

theorem imCell_sound {v : Value} {a : AV} {bs : List Nat} (h : OwnC S w v a bs) (n : Nat) :
    ∃ τ, Imp S w n (imCell n a).2.2 (imCell n a).2.1 bs τ ∧ RelV τ S w v (imCell n a).1 := by
  unfold OwnC at h
  unfold imCell
  split at h
  · exact OwnS.imp h n
  · rename_i hne
    obtain ⟨rfl, h⟩ := h
    split
    · rename_i sz es; exact absurd rfl (hne sz es)
    · exact ⟨_, Imp.empty n, .imm h⟩

theorem imL_sound {f : Nat → AV → AV × List (Nat × Row) × Nat} {Rel : Value → AV → List Nat → Prop}
    (hf : ∀ v a bs n, Rel v a bs → ∃ τ, Imp S w n (f n a).2.2 (f n a).2.1 bs τ ∧ RelV τ S w v (f n a).1) :
    ∀ {vs : List Value} {as : List AV} {bs : List Nat} (n : Nat), LiftL Rel vs as bs →
      ∃ τ, Imp S w n (imL f n as).2.2 (imL f n as).2.1 bs τ ∧ vs.length = (imL f n as).1.length ∧ ∀ (i : Nat) v c, vs[i]? = some v → (imL f n as).1[i]? = some c → RelV τ S w v c
  | [], [], bs, n, h => by
    have : bs = [] := h
    subst this
    exact ⟨_, Imp.empty n, rfl, by simp [imL]⟩
  | v :: vs, a :: as, bs, n, h => by
    obtain ⟨b1, b2, h1, h2, rfl⟩ := h
    obtain ⟨τ1, i1, r1⟩ := hf v a b1 n h1
    obtain ⟨τ2, i2, l2, r2⟩ := imL_sound hf (f n a).2.2 h2
    obtain ⟨i3, hle⟩ := i1.append i2
    refine ⟨τ1.union τ2, i3, by simp [imL, l2], fun i u c hu hc => ?_⟩
    cases i with
    | zero =>
      simp [imL] at hu hc
      subst hu hc
      exact r1.mono (Ids.le_union_left _ _) (fun _ h => h) fun _ _ => rfl
    | succ i =>
      simp [imL] at hu hc
      exact (r2 i u c hu hc).mono hle (fun _ h => h) fun _ _ => rfl
  | [], _ :: _, _, _, h => h.elim
  | _ :: _, [], _, _, h => h.elim

theorem imItem_sound {v : Value} {a : AV} {bs : List Nat} (h : OwnI S w v a bs) (n : Nat) :
    ∃ τ, Imp S w n (imItem n a).2.2 (imItem n a).2.1 bs τ ∧ RelV τ S w v (imItem n a).1 := by
  unfold OwnI at h
  unfold imItem
  split at h
  · obtain ⟨vs, rfl, h⟩ := h
    obtain ⟨τ, h1, h2, h3⟩ := imL_sound (f := imCell) (fun v a bs n h => imCell_sound h n) n h
    exact ⟨τ, h1, .agg _ _ (by simpa using h2) fun i v c hv hc => h3 i v c (by simpa using hv) hc⟩
  · rename_i hne
    split
    · rename_i cs; exact absurd rfl (hne cs)
    · exact imCell_sound h n

theorem imRes_sound {v : Value} {a : AV} {bs : List Nat} (h : OwnR S w v a bs) (n : Nat) :
    ∃ τ, Imp S w n (imRes n a).2.2 (imRes n a).2.1 bs τ ∧ RelV τ S w v (imRes n a).1 := by
  unfold OwnR at h
  unfold imRes
  split at h
  · obtain ⟨vs, rfl, h⟩ := h
    obtain ⟨τ, h1, h2, h3⟩ := imL_sound (f := imItem) (fun v a bs n h => imItem_sound h n) n h
    exact ⟨τ, h1, .tuple _ _ (by simpa using h2) fun i v c hv hc => h3 i v c (by simpa using hv) hc⟩
  · rename_i hne
    split
    · rename_i cs; exact absurd rfl (hne cs)
    · exact imItem_sound h n

theorem imL_scalars : ∀ (as : List AV) (n : Nat), (∀ x ∈ as, x.scalar = true ∨ ∃ sz es, x = .own sz es) → ∀ x ∈ (imL imCell n as).1, x.scalar = true
  | [], n, _ => by simp [imL]
  | a :: as, n, h => by
    intro x hx
    simp only [imL, List.mem_cons] at hx
    rcases hx with rfl | hx
    · rcases h a (List.mem_cons_self ..) with hs | ⟨sz, es, rfl⟩
      · unfold imCell
        split
        · rfl
        · exact hs
      · rfl
    · exact imL_scalars as _ (fun x hx => h x (List.mem_cons_of_mem _ hx)) x hx

/-- a box that is taken in -/
theorem box_imp {cells : Array Value} {cs : List AV} {bs : List Nat} (hl : LiftL (OwnC S w) cells.toList cs bs)
    (hsc : ∀ x ∈ cs, x.scalar = true ∨ ∃ sz es, x = .own sz es) (n : Nat) :
    ∃ τ, Imp S w n (imL imCell n cs).2.2 (imL imCell n cs).2.1 bs τ ∧ cells.size = (imL imCell n cs).1.length ∧ (∀ x ∈ (imL imCell n cs).1, x.scalar = true) ∧
      ∀ (i : Nat) x, (imL imCell n cs).1[i]? = some x → ∃ v, cells[i]? = some v ∧ RelV τ S w v x := by
  obtain ⟨τ, h1, h2, h3⟩ := imL_sound (f := imCell) (fun v a bs n h => imCell_sound h n) n hl
  have h2' : cells.size = (imL imCell n cs).1.length := by simpa using h2
  refine ⟨τ, h1, h2', imL_scalars cs n hsc, fun i x hx => ?_⟩
  have hlt : i < cells.size := by have := (List.getElem?_eq_some_iff.1 hx).1; omega
  exact ⟨cells[i], Array.getElem?_eq_getElem hlt, h3 i _ x (by rw [Array.getElem?_toList]; exact Array.getElem?_eq_getElem hlt) hx⟩

theorem imArg_sound {v : Value} {a : AV} {bs : List Nat} (h : ArgR S w v a bs) (n : Nat) :
    ∃ τ, Imp S w n (imArg n a).2.2 (imArg n a).2.1 bs τ ∧ RelV τ S w v (imArg n a).1 := by
  unfold ArgR at h
  unfold imArg
  split at h
  · rename_i cs
    obtain ⟨b, cells, t, bs', rfl, rfl, hh, hs, hl, hsc⟩ := h
    obtain ⟨τ, h1, h2, h3, h4⟩ := box_imp hl hsc (n + 1)
    have hone : Imp S w n (n + 1) [] [b] (Ids.set (fun _ => none) n (.row b (imL imCell (n + 1) cs).1.length 1 1)) := by
      have e : ∀ id l, (Ids.set (fun _ => none) n (Loc.row b (imL imCell (n + 1) cs).1.length 1 1)) id = some l → id = n ∧ l = .row b (imL imCell (n + 1) cs).1.length 1 1 := by
        intro id l h
        unfold Ids.set at h
        split at h
        · cases h; exact ⟨by assumption, rfl⟩
        · cases h
      refine ⟨by omega, fun id l h => ?_, by simp [lk], fun id b' h => ?_, fun _ id id' b' h h' => ?_⟩
      · have := (e id l h).1; omega
      · obtain ⟨l, h, hb⟩ := h
        obtain ⟨_, rfl⟩ := e id l h
        cases hb; simp
      · obtain ⟨l, h, _⟩ := h
        obtain ⟨l', h', _⟩ := h'
        rw [(e id l h).1, (e id' l' h').1]
    obtain ⟨h5, h6⟩ := hone.append h1
    simp only [List.nil_append, List.singleton_append] at h5
    refine ⟨_, ⟨h5.le, h5.dom, fun id r hr => ?_, h5.blk, h5.inj⟩, ?_⟩
    · simp only [lk] at hr
      split at hr
      · rename_i e
        subst e
        simp at hr; subst hr
        refine ⟨b, cells, t, Ids.le_union_left _ _ _ _ (Ids.set_self ..), hh, h2, h3, fun i x hx => ?_⟩
        obtain ⟨v, q1, q2⟩ := h4 i x hx
        exact ⟨v, q1, q2.mono h6 (fun _ h => h) fun _ _ => rfl⟩
      · exact h5.ok id r hr
    · have := RelV.ptr (S := S) (w := w) n 0 0 b _ 1 1 (Ids.le_union_left _ τ _ _ (Ids.set_self (fun _ => none) n (Loc.row b (imL imCell (n + 1) cs).1.length 1 1))) (by omega)
      simpa using this
  · exact OwnS.imp h n
  · rename_i h1 h2
    obtain ⟨rfl, h⟩ := h
    split
    · rename_i cs; exact absurd rfl (h1 cs)
    · rename_i sz es; exact absurd rfl (h2 sz es)
    · exact ⟨_, Imp.empty n, .imm h⟩

theorem imArgs_sound : ∀ {vs : List Value} {as : List AV} {bs : List Nat} (n : Nat), LiftL (ArgR S w) vs as bs →
    ∃ τ, Imp S w n (imArgs n as).2.2.2 (imArgs n as).2.1 bs τ ∧ vs.length = (imArgs n as).1.length ∧ ∀ (i : Nat) v c, vs[i]? = some v → (imArgs n as).1[i]? = some c → RelV τ S w v c
  | [], [], bs, n, h => by
    have : bs = [] := h
    subst this
    exact ⟨_, Imp.empty n, rfl, by simp [imArgs]⟩
  | v :: vs, a :: as, bs, n, h => by
    obtain ⟨b1, b2, h1, h2, rfl⟩ := h
    obtain ⟨τ1, i1, r1⟩ := imArg_sound h1 n
    obtain ⟨τ2, i2, l2, r2⟩ := imArgs_sound (imArg n a).2.2 h2
    obtain ⟨i3, hle⟩ := i1.append i2
    refine ⟨τ1.union τ2, i3, by simp [imArgs, l2], fun i u c hu hc => ?_⟩
    cases i with
    | zero =>
      simp [imArgs] at hu hc
      subst hu hc
      exact r1.mono (Ids.le_union_left _ _) (fun _ h => h) fun _ _ => rfl
    | succ i =>
      simp [imArgs] at hu hc
      exact (r2 i u c hu hc).mono hle (fun _ h => h) fun _ _ => rfl
  | [], _ :: _, _, _, h => h.elim
  | _ :: _, [], _, _, h => h.elim

end
end Go.Abs
