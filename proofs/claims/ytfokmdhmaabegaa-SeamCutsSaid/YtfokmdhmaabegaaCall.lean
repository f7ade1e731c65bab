/-
  The step of a call.
-/
import Derived.Test.YtfokmdhmaabegaaImp
set_option linter.all false
namespace Go.Abs

def AV.isLent : AV → Bool
  | .bor _ | .borS .. => true
  | _ => false

/-- the arguments that are lent -/
def lentVals : List Value → List AV → List Value
  | v :: vs, a :: as => if a.isLent then v :: lentVals vs as else lentVals vs as
  | _, _ => []

/-- what a call returns: the value, and the blocks behind it -/
def CallPost (S : Nat → Prop) (w : World) (bs : List Nat) (lent : List Value) (res : AV) (outs : List AV) (e : Ending) (w' : World) : Prop :=
  ∃ v S' bs1 bs2, e = .returned v ∧ OwnR S' w' v res bs1 ∧ LiftL (ArgR S' w') lent outs bs2 ∧ (bs1 ++ bs2).Nodup ∧
    (∀ b ∈ bs1 ++ bs2, ¬ S' b ∧ (w.heap.size ≤ b ∨ b ∈ bs) ∧ b < w'.heap.size) ∧ (∀ b, S b → S' b) ∧ (∀ b, S' b → (S b ∨ w.heap.size ≤ b ∨ b ∈ bs) ∧ b < w'.heap.size) ∧
    (∀ b, b < w.heap.size → b ∉ bs → w'.heap[b]? = w.heap[b]?) ∧ Same w w'

/-- a function at arguments -/
def CallOk (P : Program) (f : Nat) (args : List AV) (res : AV) (outs : List AV) : Prop :=
  ∀ (S : Nat → Prop) (w : World) (vs : List Value) (bs : List Nat), LiftL (ArgR S w) vs args bs → bs.Nodup → (∀ b ∈ bs, ¬ S b ∧ b < w.heap.size) → (∀ b, S b → b < w.heap.size) →
    Calls P f vs.toArray w (CallPost S w bs (lentVals vs args) res outs)

section
variable {P : Program} {Own : Nat → Prop} {σ : Ids} {S : Nat → Prop} {w : World} {R : Nat → Option Row} {s : Nat} {T : Nat → Option AV} {a : Act} {o : Oper} {e : Eff}

theorem ArgR_imm {v : Value} {x : AV} (h : RelI S w v x) (h1 : ∀ cs, x ≠ .bor cs) (h2 : ∀ sz es, x ≠ .borS sz es) : ArgR S w v x [] := by
  unfold ArgR
  split
  · rename_i cs; exact absurd rfl (h1 cs)
  · rename_i sz es; exact absurd rfl (h2 sz es)
  · exact ⟨rfl, h⟩

/-- one argument -/
theorem lendArg_sound (hR : RowsOk Own σ S w R) {lent : Bool} {x : AV} {l : Lent} {v : Value} (h : lendArg R lent x = some l) (hv : RelV σ S w v x) :
    ∃ y, l.vs = [y] ∧ ArgR (Locked σ S R l.fz) w v y (blocksOf σ l.mv) ∧ (∀ i ∈ l.mv, ∃ r, R i = some r) ∧
      ((l.out = [] ∧ y.isLent = false) ∨ (∃ id, l.out = [id] ∧ id ∈ l.mv ∧ y.isLent = true ∧ ((∃ cs, R id = some (.box cs) ∧ x = .ptr id 0 0 ∧ ∃ cs', y = .bor cs') ∨ (∃ sz es, R id = some (.arr sz es) ∧ x = .slice id 0 es.length ∧ y = .borS sz es)))) := by
  have rowsMv : ∀ {as : List AV} {r : List AV × List Nat × List Nat}, exL (exCell R) as = some r → ∀ i ∈ r.2.1, ∃ q, R i = some q := by
    intro as
    induction as with
    | nil => intro r h; simp [exL] at h; subst h; simp
    | cons c as ih =>
      intro r h
      simp only [exL] at h
      split at h
      · cases h
      · rename_i x hx
        split at h
        · cases h
        · rename_i ys m z hy
          simp at h; subst h
          intro i hi
          rcases List.mem_append.1 hi with hi | hi
          · unfold exCell at hx
            split at hx
            · simp at hx; subst hx; simp at hi
            · split at hx
              · rename_i hr
                split at hx
                · simp at hx; subst hx; simp at hi; subst hi; exact ⟨_, hr⟩
                · split at hx
                  · simp at hx; subst hx; simp at hi
                  · cases hx
              · cases hx
            · cases hx
            · cases hx
            · split at hx
              · simp at hx; subst hx; simp at hi
              · cases hx
          · exact ih hy i hi
  unfold lendArg at h
  split at h
  · split at h
    · rename_i id
      split at h
      · rename_i cs hr
        split at h
        · rename_i cs' m z hx
          simp at h; subst h
          refine ⟨.bor cs', rfl, exBox_sound hR hr hx hv, fun i hi => ?_, .inr ⟨id, rfl, by simp, rfl, .inl ⟨cs, hr, rfl, cs', rfl⟩⟩⟩
          rcases List.mem_cons.1 hi with rfl | hi
          · exact ⟨_, hr⟩
          · exact rowsMv hx i hi
        · cases h
      · cases h
    · rename_i id len
      split at h
      · rename_i sz es hr
        split at h
        · rename_i hl
          simp at h; subst h
          subst hl
          exact ⟨.borS sz es, rfl, (row_own hR hr rfl rfl hv).lock, fun i hi => by simp at hi; subst hi; exact ⟨_, hr⟩, .inr ⟨id, rfl, by simp, rfl, .inr ⟨sz, es, hr, rfl, rfl⟩⟩⟩
        · cases h
      · cases h
    · cases h
  · split at h
    · rename_i v' ids hf
      simp at h; subst h
      have hno := frz_notOwn hf
      refine ⟨v', rfl, ArgR_imm (frz_sound hR _ hf hv) hno.2.1 hno.2.2.1, by simp, .inl ⟨rfl, ?_⟩⟩
      cases v' <;> first | rfl | exact absurd rfl (hno.2.1 _) | exact absurd rfl (hno.2.2.1 _ _)
    · cases h

/-- the rows that are lent, with the values that lead to them -/
def LentRows (σ : Ids) (S : Nat → Prop) (w : World) (R : Nat → Option Row) : List Value → List Nat → Prop
  | [], [] => True
  | v :: vs, id :: ids => ((∃ cs, R id = some (.box cs) ∧ RelV σ S w v (.ptr id 0 0)) ∨ (∃ sz es, R id = some (.arr sz es) ∧ RelV σ S w v (.slice id 0 es.length))) ∧ LentRows σ S w R vs ids
  | _, _ => False

theorem lendArgs_sound (hR : RowsOk Own σ S w R) {bor : List Nat} : ∀ {xs : List AV} {k : Nat} {l : Lent} {vs : List Value}, lendArgs R bor k xs = some l → vs.length = xs.length →
    (∀ (i : Nat) v c, vs[i]? = some v → xs[i]? = some c → RelV σ S w v c) →
    LiftL (ArgR (Locked σ S R l.fz) w) vs l.vs (blocksOf σ l.mv) ∧ (∀ i ∈ l.mv, ∃ r, R i = some r) ∧ (∀ i ∈ l.out, i ∈ l.mv) ∧ LentRows σ S w R (lentVals vs l.vs) l.out
  | [], k, l, [], h, _, _ => by simp [lendArgs] at h; subst h; simp [LiftL, blocksOf, lentVals, LentRows]
  | [], _, _, _ :: _, _, hl, _ => by simp at hl
  | _ :: _, _, _, [], _, hl, _ => by simp at hl
  | x :: xs, k, l, v :: vs, h, hl, hr => by
    simp only [lendArgs] at h
    split at h
    · cases h
    · rename_i la hla
      split at h
      · cases h
      · rename_i lb hlb
        simp at h; subst h
        obtain ⟨y, hy, h1, h2, h3⟩ := lendArg_sound hR hla (hr 0 v x rfl rfl)
        obtain ⟨g1, g2, g3, g4⟩ := lendArgs_sound hR hlb (by simpa using hl) (fun i v c hv hc => hr (i + 1) v c (by simpa using hv) (by simpa using hc))
        refine ⟨?_, fun i hi => ?_, fun i hi => ?_, ?_⟩
        · simp only [hy, List.singleton_append]
          exact ⟨_, _, h1.mono (Locked.weaken fun i hi => List.mem_append_left _ hi), g1.mono fun _ _ _ => ArgR.mono (Locked.weaken fun i hi => List.mem_append_right _ hi), by simp [blocksOf_append]⟩
        · rcases List.mem_append.1 hi with hi | hi
          · exact h2 i hi
          · exact g2 i hi
        · rcases List.mem_append.1 hi with hi | hi
          · rcases h3 with ⟨h3, _⟩ | ⟨id, h3, hm, _⟩
            · rw [h3] at hi; cases hi
            · rw [h3] at hi; simp at hi; subst hi; exact List.mem_append_left _ hm
          · exact List.mem_append_right _ (g3 i hi)
        · simp only [hy, List.singleton_append, lentVals]
          rcases h3 with ⟨h3, hlent⟩ | ⟨id, h3, hm, hlent, hcase⟩
          · rw [hlent, h3]; simpa using g4
          · rw [hlent, h3]
            simp only [if_true, List.singleton_append, LentRows]
            refine ⟨?_, g4⟩
            have hv0 := hr 0 v x rfl rfl
            rcases hcase with ⟨cs, q1, rfl, _⟩ | ⟨sz, es, q1, rfl, _⟩
            · exact .inl ⟨cs, q1, hv0⟩
            · exact .inr ⟨sz, es, q1, hv0⟩

theorem blocksOf_nodup (hR : RowsOk Own σ S w R) : ∀ {ids : List Nat}, nodup ids = true → (∀ i ∈ ids, ∃ r, R i = some r) → (blocksOf σ ids).Nodup
  | [], _, _ => by simp [blocksOf]
  | i :: ids, h, hr => by
    simp only [nodup, Bool.and_eq_true, Bool.not_eq_true'] at h
    have ih := blocksOf_nodup hR h.2 fun j hj => hr j (List.mem_cons_of_mem _ hj)
    have e : blocksOf σ (i :: ids) = ((σ i).bind Loc.block).toList ++ blocksOf σ ids := by
      simp only [blocksOf, List.filterMap_cons]
      cases (σ i).bind Loc.block <;> simp
    rw [e]
    cases hb : (σ i).bind Loc.block with
    | none => simpa using ih
    | some b =>
      simp only [Option.toList_some, List.singleton_append, List.nodup_cons]
      refine ⟨fun hm => ?_, ih⟩
      obtain ⟨j, hj, hjb⟩ := mem_blocksOf hm
      obtain ⟨r, hri⟩ := hr i (List.mem_cons_self ..)
      obtain ⟨r', hrj⟩ := hr j (List.mem_cons_of_mem _ hj)
      have hib : Loc.has (σ i) b := by
        cases hσ : σ i with
        | none => simp [hσ] at hb
        | some l => rw [hσ] at hb; exact ⟨l, rfl, hb⟩
      have := hR.inj i j r r' b hri hrj hib hjb
      subst this
      have h1 := h.1
      simp at h1
      exact h1 hj

end
end Go.Abs
