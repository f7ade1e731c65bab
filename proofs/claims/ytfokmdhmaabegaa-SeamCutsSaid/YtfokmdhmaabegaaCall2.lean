/-
  The step of a call, second part.
-/
import Derived.Test.YtfokmdhmaabegaaCall
set_option linter.all false
namespace Go.Abs

section
variable {P : Program} {Own : Nat → Prop} {σ : Ids} {S : Nat → Prop} {w : World} {R : Nat → Option Row} {s : Nat} {T : Nat → Option AV} {a : Act} {o : Oper} {e : Eff}

theorem RowOk.some {τ : Ids} {id : Nat} {r : Row} (h : RowOk τ S w id r) : ∃ l, τ id = some l := by
  cases r with
  | arr sz es => rcases h with ⟨h, _⟩ | ⟨b, c, cs, t, h, _⟩ <;> exact ⟨_, h⟩
  | box xs => obtain ⟨b, cs, t, h, _⟩ := h; exact ⟨_, h⟩
  | mp k kv => obtain ⟨b, cs, t, h, _⟩ := h; exact ⟨_, h⟩

theorem has_le {τ ρ : Ids} (h : τ.le ρ) {id : Nat} {l : Loc} (hl : τ id = some l) {b : Nat} (hb : Loc.has (ρ id) b) : Loc.has (τ id) b := by
  obtain ⟨l', h1, h2⟩ := hb
  rw [h id l hl] at h1
  cases h1
  exact ⟨l, hl, h2⟩

theorem RelV.ptr_inv {v : Value} {id idx off : Nat} (h : RelV σ S w v (.ptr id idx off)) : ∃ b sz n c, σ id = some (.row b sz n c) ∧ idx < n ∧ v = .pointer (some ⟨b, idx * sz + off, none⟩) := by
  cases h with
  | imm h => cases h
  | ptr _ _ _ b sz n c h h1 => exact ⟨b, sz, n, c, h, h1, rfl⟩

theorem RelV.slice_inv {v : Value} {id off len : Nat} (h : RelV σ S w v (.slice id off len)) : (σ id = some .virt ∧ off = 0 ∧ len = 0 ∧ ∃ a, v = .slice a 0 0) ∨
    ∃ b sz n c cap a, σ id = some (.row b sz n c) ∧ off + len ≤ n ∧ n ≤ off + cap ∧ off + cap = c ∧ (cap ≠ 0 → a = ⟨b, off * sz, none⟩) ∧ v = .slice (some a) len cap := by
  cases h with
  | imm h => cases h
  | sliceV _ a h => exact .inl ⟨h, rfl, rfl, a, rfl⟩
  | slice _ _ _ cap b sz n c a h h1 h2 h3 h4 => exact .inr ⟨b, sz, n, c, cap, a, h, h1, h2, h3, h4, rfl⟩

theorem lk_rowsWr (k : Nat) (l : List (Nat × Row)) : lk k (rowsWr l) = (lk k l).map some := by
  induction l with
  | nil => rfl
  | cons p l ih =>
    obtain ⟨j, r⟩ := p
    simp only [rowsWr, List.map_cons, lk] at ih ⊢
    split
    · rfl
    · exact ih

theorem backs_sound (hR : RowsOk Own σ S w R) {S2 : Nat → Prop} {w2 : World} : ∀ {out : List Nat} {outs : List AV} {lents : List Value} {bs : List Nat} {rs : List (Nat × Option Row)} {n n' : Nat},
    LiftL (ArgR S2 w2) lents outs bs → LentRows σ S w R lents out → backs R n out outs = some (rs, n') →
    ∃ τ : Ids, n ≤ n' ∧ (∀ id l, τ id = some l → n ≤ id ∧ id < n') ∧ ∀ ρ : Ids, σ.le ρ → τ.le ρ →
      (∀ k r, lk k rs = some (some r) → RowOk ρ S2 w2 k r) ∧ (∀ k r b, lk k rs = some (some r) → Loc.has (ρ k) b → b ∈ bs) ∧
      (bs.Nodup → ∀ k k' r r' b, lk k rs = some (some r) → lk k' rs = some (some r') → Loc.has (ρ k) b → Loc.has (ρ k') b → k = k') ∧
      (∀ k r, lk k rs = some (some r) → k ∈ out ∨ (n ≤ k ∧ k < n')) ∧ (∀ k ∈ out, ∃ r, lk k rs = some r)
  | [], outs, lents, bs, rs, n, n', hl, hr, h => by
    cases outs with
    | nil =>
      simp [backs] at h
      obtain ⟨rfl, rfl⟩ := h
      exact ⟨fun _ => none, Nat.le_refl _, by simp, fun ρ _ _ => ⟨by simp [lk], by simp [lk], by simp [lk], by simp [lk], by simp⟩⟩
    | cons x xs => simp [backs] at h
  | id :: ids, outs, lents, bs, rs, n, n', hl, hr, h => by
    cases outs with
    | nil => simp [backs] at h
    | cons x outs =>
      cases lents with
      | nil => exact hl.elim
      | cons v lents =>
        obtain ⟨b1, b2, h1, h2, rfl⟩ := hl
        obtain ⟨hr1, hr2⟩ := hr
        cases x with
        | bor cs =>
          simp only [backs] at h
          split at h
          · rename_i cs0 hrow
            split at h
            · rename_i hlen
              split at h
              · rename_i rs' n'' hb
                simp only [Option.some.injEq, Prod.mk.injEq] at h
                obtain ⟨rfl, rfl⟩ := h
                obtain ⟨b, cells, t, bs', rfl, rfl, hh, hs, hcl, hsc⟩ := h1
                obtain ⟨τ1, i1, l1, s1, c1⟩ := box_imp hcl hsc n
                obtain ⟨τ2, le2, dom2, ih⟩ := backs_sound hR h2 hr2 hb
                have hdis : ∀ id l l', τ1 id = some l → τ2 id = some l' → False := fun id l l' a b => by
                  have := i1.dom id l a
                  have := dom2 id l' b
                  omega
                obtain ⟨b0, cells0, t0, hk, _⟩ := hR.ok id _ hrow
                have hbb : σ id = some (.row b cs0.length 1 1) := by
                  rcases hr1 with ⟨_, _, hv⟩ | ⟨sz, es, hrow', hv⟩
                  · obtain ⟨b'', sz'', n'', c'', hσ, hlt, heq⟩ := hv.ptr_inv
                    have q := hk.symm.trans hσ
                    simp only [Option.some.injEq, Loc.row.injEq] at q
                    obtain ⟨rfl, rfl, rfl, rfl⟩ := q
                    simp at heq
                    rw [hk, heq]
                  · rw [hrow] at hrow'; cases hrow'
                refine ⟨τ1.union τ2, Nat.le_trans i1.le le2, fun k l hk' => ?_, fun ρ hσρ hτρ => ?_⟩
                · unfold Ids.union at hk'
                  cases h1 : τ1 k with
                  | some l' => have := i1.dom k l' h1; omega
                  | none => rw [h1] at hk'; have := dom2 k l hk'; have := i1.le; omega
                · have hτ1 : τ1.le ρ := fun k l h => hτρ k l (Ids.le_union_left _ _ k l h)
                  have hτ2 : τ2.le ρ := fun k l h => hτρ k l (Ids.le_union_right hdis k l h)
                  obtain ⟨ok2, blk2, inj2, key2, out2⟩ := ih ρ hσρ hτ2
                  have hρid := hσρ _ _ hbb
                  have hparts : ∀ k r, lk k ((id, some (Row.box (imL imCell n cs).1)) :: (rowsWr (imL imCell n cs).2.1 ++ rs')) = some (some r) →
                      (k = id ∧ r = .box (imL imCell n cs).1) ∨ (k ≠ id ∧ lk k (imL imCell n cs).2.1 = some r) ∨ (k ≠ id ∧ lk k rs' = some (some r)) := by
                    intro k r hkr
                    simp only [lk] at hkr
                    split at hkr
                    · rename_i e; subst e; simp at hkr; exact .inl ⟨rfl, hkr.symm⟩
                    · rename_i e
                      rw [lk_append, lk_rowsWr] at hkr
                      cases hq : lk k (imL imCell n cs).2.1 with
                      | some r' => rw [hq] at hkr; simp at hkr; subst hkr; exact .inr (.inl ⟨Ne.symm e, rfl⟩)
                      | none => rw [hq] at hkr; exact .inr (.inr ⟨Ne.symm e, by simpa using hkr⟩)
                  have hasId : ∀ b', Loc.has (ρ id) b' → b' = b := by
                    rintro b' ⟨l, hl, hb'⟩
                    rw [hρid] at hl; cases hl; cases hb'; rfl
                  have hasImp : ∀ k r b', lk k (imL imCell n cs).2.1 = some r → Loc.has (ρ k) b' → Loc.has (τ1 k) b' := by
                    intro k r b' hkr hb'
                    obtain ⟨l, hl⟩ := (i1.ok k r hkr).some
                    exact has_le hτ1 hl hb'
                  refine ⟨fun k r hkr => ?_, fun k r b' hkr hb' => ?_, fun hnd k k' r r' b' hkr hkr' hb' hb'' => ?_, fun k r hkr => ?_, fun k hk' => ?_⟩
                  · rcases hparts k r hkr with ⟨rfl, rfl⟩ | ⟨_, hq⟩ | ⟨_, hq⟩
                    · refine ⟨b, cells, t, by rw [hρid, ← l1, hs, hlen], hh, l1, s1, fun i x hx => ?_⟩
                      obtain ⟨v, q1, q2⟩ := c1 i x hx
                      exact ⟨v, q1, q2.mono hτ1 (fun _ h => h) fun _ _ => rfl⟩
                    · exact (i1.ok k r hq).ids hτ1
                    · exact ok2 k r hq
                  · rcases hparts k r hkr with ⟨rfl, rfl⟩ | ⟨_, hq⟩ | ⟨_, hq⟩
                    · rw [hasId b' hb']; simp
                    · exact List.mem_append_left _ (List.mem_cons_of_mem _ (i1.blk k b' (hasImp k r b' hq hb')))
                    · exact List.mem_append_right _ (blk2 k r b' hq hb')
                  · obtain ⟨nd1, nd2, nd3⟩ := List.nodup_append.1 hnd
                    obtain ⟨nd4, nd5⟩ := List.nodup_cons.1 nd1
                    rcases hparts k r hkr with ⟨rfl, rfl⟩ | ⟨_, hq⟩ | ⟨_, hq⟩ <;> rcases hparts k' r' hkr' with ⟨rfl, rfl⟩ | ⟨_, hq'⟩ | ⟨_, hq'⟩
                    · rfl
                    · have e := hasId b' hb'
                      subst e
                      exact absurd (i1.blk k' b' (hasImp k' r' b' hq' hb'')) nd4
                    · have e := hasId b' hb'
                      subst e
                      exact absurd rfl (nd3 b' (by simp) b' (blk2 k' r' b' hq' hb''))
                    · have e := hasId b' hb''
                      subst e
                      exact absurd (i1.blk k b' (hasImp k r b' hq hb')) nd4
                    · exact i1.inj nd5 k k' b' (hasImp k r b' hq hb') (hasImp k' r' b' hq' hb'')
                    · exact absurd rfl (nd3 b' (List.mem_cons_of_mem _ (i1.blk k b' (hasImp k r b' hq hb'))) b' (blk2 k' r' b' hq' hb''))
                    · have e := hasId b' hb''
                      subst e
                      exact absurd rfl (nd3 b' (by simp) b' (blk2 k r b' hq hb'))
                    · exact absurd rfl (nd3 b' (List.mem_cons_of_mem _ (i1.blk k' b' (hasImp k' r' b' hq' hb''))) b' (blk2 k r b' hq hb'))
                    · exact inj2 nd2 k k' r r' b' hq hq' hb' hb''
                  · rcases hparts k r hkr with ⟨rfl, rfl⟩ | ⟨_, hq⟩ | ⟨_, hq⟩
                    · exact .inl (by simp)
                    · obtain ⟨l, hl⟩ := (i1.ok k r hq).some
                      have := i1.dom k l hl
                      exact .inr ⟨this.1, by omega⟩
                    · rcases key2 k r hq with hk2 | hk2
                      · exact .inl (List.mem_cons_of_mem _ hk2)
                      · have := i1.le; exact .inr ⟨by omega, hk2.2⟩
                  · simp only [lk]
                    by_cases e : id = k
                    · exact ⟨_, if_pos e⟩
                    · rw [if_neg e, lk_append]
                      rcases List.mem_cons.1 hk' with rfl | hk'
                      · exact absurd rfl e
                      · obtain ⟨r, hr⟩ := out2 k hk'
                        cases hq : lk k (rowsWr (imL imCell n cs).2.1) with
                        | some r' => exact ⟨r', rfl⟩
                        | none => exact ⟨r, by simpa using hr⟩
              · cases h
            · cases h
          · cases h
        | borS sz es =>
          simp only [backs] at h
          split at h
          · rename_i sz0 es0 hrow
            split at h
            · rename_i hc
              obtain ⟨rfl, hlen⟩ := hc
              split at h
              · rename_i rs' n'' hb
                simp only [Option.some.injEq, Prod.mk.injEq] at h
                obtain ⟨rfl, rfl⟩ := h
                obtain ⟨τ2, le2, dom2, ih⟩ := backs_sound hR h2 hr2 hb
                have hrowok : es.length ≠ 0 → ∃ b cap cs t, b1 = [b] ∧ σ id = some (.row b sz0 es.length cap) ∧ w2.heap[b]? = some (.cells cs t (0, 0)) ∧ cap * sz0 ≤ cs.size ∧ es.length ≤ cap ∧ cap ≤ maxLen ∧ 0 < sz0 ∧ (∀ e ∈ es, Elem sz0 e) ∧
                    ∀ (i : Nat) x, (flat es)[i]? = some x → ∃ u, cs[i]? = some u ∧ RelI S2 w2 u x := by
                  intro hne
                  rcases hr1 with ⟨cs, hrow', hv⟩ | ⟨sz', es', hrow', hv⟩
                  · rw [hrow] at hrow'; cases hrow'
                  · rw [hrow] at hrow'; cases hrow'
                    rcases h1 with ⟨a, rfl, rfl⟩ | ⟨b, cap, cs, t, hveq, rfl, g3, g4, g5, g6, g7, g8, g10, g11⟩
                    · exact absurd rfl hne
                    · rcases hv.slice_inv with ⟨_, _, hl0, _⟩ | ⟨b'', sz'', n'', c'', cap', a, hσ, q1, q2, q3, q4, heq⟩
                      · omega
                      · rw [hveq] at heq
                        simp only [Value.slice.injEq, Option.some.injEq] at heq
                        obtain ⟨e1, e2, e3⟩ := heq
                        subst e3
                        have ha := q4 (by omega)
                        rw [← e1] at ha
                        simp at ha
                        subst ha
                        rw [Nat.zero_add] at q3
                        subst q3
                        rcases hR.ok id _ hrow with ⟨hk, _⟩ | ⟨b', c', cur, te, hk, _⟩
                        · rw [hk] at hσ; cases hσ
                        · have q := hk.symm.trans hσ
                          simp only [Option.some.injEq, Loc.row.injEq] at q
                          obtain ⟨rfl, rfl, rfl, rfl⟩ := q
                          exact ⟨b', c', cs, t, rfl, by rw [hk, hlen], g3, g4, by omega, g7, g8, g10, g11⟩
                refine ⟨τ2, le2, dom2, fun ρ hσρ hτρ => ?_⟩
                obtain ⟨ok2, blk2, inj2, key2, out2⟩ := ih ρ hσρ hτρ
                have hparts : ∀ k r, lk k ((id, if es.length = 0 then none else some (Row.arr sz0 es)) :: rs') = some (some r) →
                    (k = id ∧ es.length ≠ 0 ∧ r = .arr sz0 es) ∨ (k ≠ id ∧ lk k rs' = some (some r)) := by
                  intro k r hkr
                  simp only [lk] at hkr
                  split at hkr
                  · rename_i e
                    subst e
                    split at hkr
                    · simp at hkr
                    · rename_i hne
                      simp at hkr
                      exact .inl ⟨rfl, hne, hkr.symm⟩
                  · rename_i e; exact .inr ⟨Ne.symm e, hkr⟩
                refine ⟨fun k r hkr => ?_, fun k r b' hkr hb' => ?_, fun hnd k k' r r' b' hkr hkr' hb' hb'' => ?_, fun k r hkr => ?_, fun k hk' => ?_⟩
                · rcases hparts k r hkr with ⟨rfl, hne, rfl⟩ | ⟨_, hq⟩
                  · obtain ⟨b, cap, cs, t, rfl, hσ, p1, p2, p3, p4, p5, p6, p7⟩ := hrowok hne
                    exact .inr ⟨b, cap, cs, t, hσρ _ _ hσ, p1, p2, p3, p4, p5, p6, p7⟩
                  · exact ok2 k r hq
                · rcases hparts k r hkr with ⟨rfl, hne, rfl⟩ | ⟨_, hq⟩
                  · obtain ⟨b, cap, cs, t, rfl, hσ, _⟩ := hrowok hne
                    have := has_le hσρ hσ hb'
                    obtain ⟨l, hl, hbb⟩ := this
                    rw [hσ] at hl; cases hl; cases hbb
                    simp
                  · exact List.mem_append_right _ (blk2 k r b' hq hb')
                · obtain ⟨nd1, nd2, nd3⟩ := List.nodup_append.1 hnd
                  rcases hparts k r hkr with ⟨rfl, hne, rfl⟩ | ⟨_, hq⟩ <;> rcases hparts k' r' hkr' with ⟨rfl, hne', rfl⟩ | ⟨_, hq'⟩
                  · rfl
                  · obtain ⟨b, cap, cs, t, rfl, hσ, _⟩ := hrowok hne
                    obtain ⟨l, hl, hbb⟩ := has_le hσρ hσ hb'
                    rw [hσ] at hl; cases hl; cases hbb
                    exact absurd rfl (nd3 b' (by simp) b' (blk2 k' r' b' hq' hb''))
                  · obtain ⟨b, cap, cs, t, rfl, hσ, _⟩ := hrowok hne'
                    obtain ⟨l, hl, hbb⟩ := has_le hσρ hσ hb''
                    rw [hσ] at hl; cases hl; cases hbb
                    exact absurd rfl (nd3 b' (by simp) b' (blk2 k r b' hq hb'))
                  · exact inj2 nd2 k k' r r' b' hq hq' hb' hb''
                · rcases hparts k r hkr with ⟨rfl, hne, rfl⟩ | ⟨_, hq⟩
                  · exact .inl (by simp)
                  · rcases key2 k r hq with hk2 | hk2
                    · exact .inl (List.mem_cons_of_mem _ hk2)
                    · exact .inr hk2
                · simp only [lk]
                  by_cases e : id = k
                  · exact ⟨_, if_pos e⟩
                  · rw [if_neg e]
                    rcases List.mem_cons.1 hk' with rfl | hk'
                    · exact absurd rfl e
                    · exact out2 k hk'
              · cases h
            · cases h
          · cases h
        | _ => simp [backs] at h

end
end Go.Abs
