/-
  What an operation looks at: its temporaries, and the rows that its effect lists.
-/
import Derived.Test.YtfokmdhmaabegaaStep
set_option linter.all false
namespace Go.Abs

section
variable {R R' : Nat → Option Row} {T T' : Nat → Option AV}

theorem frzL_local {f f' : AV → Option (AV × List Nat)} (P : Nat → Prop) (hf : ∀ c c' i, f c = some (c', i) → (∀ x ∈ i, P x) → f' c = some (c', i)) : ∀ {cs cs' : List AV} {ids : List Nat}, frzL f cs = some (cs', ids) → (∀ x ∈ ids, P x) → frzL f' cs = some (cs', ids)
  | [], cs', ids, h, _ => h
  | c :: r, cs', ids, h, hp => by
    simp only [frzL] at h ⊢
    split at h
    · cases h
    · rename_i c1 i1 hc
      split at h
      · cases h
      · rename_i r1 j1 hr
        simp only [Option.some.injEq, Prod.mk.injEq] at h
        obtain ⟨rfl, rfl⟩ := h
        rw [hf c c1 i1 hc fun x hx => hp x (List.mem_append_left _ hx)]
        simp only
        rw [frzL_local P hf hr fun x hx => hp x (List.mem_append_right _ hx)]

theorem frz_local : ∀ (d : Nat) {a a' : AV} {ids : List Nat}, frz R d a = some (a', ids) → (∀ i ∈ ids, R' i = R i) → frz R' d a = some (a', ids)
  | 0, a, a', ids, h, _ => by simp [frz] at h
  | d + 1, a, a', ids, h, hR => by
    cases a with
    | slice id off len =>
      simp only [frz] at h ⊢
      split at h
      · rename_i sz es hr
        split at h
        · rename_i hl
          simp only [Option.some.injEq, Prod.mk.injEq] at h; obtain ⟨rfl, rfl⟩ := h
          rw [hR id (by simp), hr]
          simp [hl]
        · cases h
      · cases h
    | ptr id idx off =>
      simp only [frz] at h ⊢
      split at h
      · rename_i cs hr
        split at h
        · rename_i hz
          split at h
          · rename_i cs' ids' hf
            simp only [Option.some.injEq, Prod.mk.injEq] at h; obtain ⟨rfl, rfl⟩ := h
            rw [hR id (by simp), hr]
            simp only [hz, if_true]
            rw [frzL_local (fun i => R' i = R i) (fun c c' i h hp => frz_local d h hp) hf fun x hx => hR x (List.mem_cons_of_mem _ hx)]
          · cases h
        · cases h
      · rename_i sz es hr
        split at h
        · rename_i e he
          simp only [Option.some.injEq, Prod.mk.injEq] at h; obtain ⟨rfl, rfl⟩ := h
          rw [hR id (by simp), hr]
          simp only [he]
        · cases h
      · cases h
    | agg cs =>
      simp only [frz] at h ⊢
      split at h
      · rename_i cs' ids' hf
        simp only [Option.some.injEq, Prod.mk.injEq] at h; obtain ⟨rfl, rfl⟩ := h
        rw [frzL_local (fun i => R' i = R i) (fun c c' i h hp => frz_local d h hp) hf hR]
      · cases h
    | func f cap =>
      simp only [frz] at h ⊢
      split at h
      · rename_i cs' ids' hf
        simp only [Option.some.injEq, Prod.mk.injEq] at h; obtain ⟨rfl, rfl⟩ := h
        rw [frzL_local (fun i => R' i = R i) (fun c c' i h hp => frz_local d h hp) hf hR]
      · cases h
    | _ => exact h

theorem exCell_local {a : AV} {x : Ex} (h : exCell R a = some x) (hR : ∀ i ∈ x.mv ++ x.fz, R' i = R i) : exCell R' a = some x := by
  unfold exCell at h ⊢
  split at h
  · exact h
  · rename_i id off len
    split at h
    · rename_i sz es hr
      split at h
      · rename_i hc
        simp at h; subst h
        rw [hR id (by simp), hr]
        simp [hc]
      · rename_i hc
        split at h
        · rename_i hle
          simp at h; subst h
          rw [hR id (by simp), hr]
          simp [hc, hle]
        · cases h
    · cases h
  · cases h
  · cases h
  · split at h
    · rename_i v' ids hf
      simp at h; subst h
      rw [frz_local _ hf fun i hi => hR i (by simpa using hi)]
    · cases h

theorem exL_local {f f' : AV → Option Ex} (P : Nat → Prop) (hf : ∀ c x, f c = some x → (∀ i ∈ x.mv ++ x.fz, P i) → f' c = some x) : ∀ {cs : List AV} {r : List AV × List Nat × List Nat}, exL f cs = some r → (∀ i ∈ r.2.1 ++ r.2.2, P i) → exL f' cs = some r
  | [], r, h, _ => h
  | c :: cs, r, h, hp => by
    simp only [exL] at h ⊢
    split at h
    · cases h
    · rename_i x hx
      split at h
      · cases h
      · rename_i ys m z hy
        simp only [Option.some.injEq] at h
        subst h
        simp only [List.mem_append] at hp
        rw [hf c x hx fun i hi => hp i (by simp only [List.mem_append] at hi; rcases hi with hi | hi <;> simp [hi])]
        simp only
        rw [exL_local P hf hy fun i hi => hp i (by simp only [List.mem_append] at hi; rcases hi with hi | hi <;> simp [hi])]

theorem lendArg_local {b : Bool} {x : AV} {l : Lent} (h : lendArg R b x = some l) (hR : ∀ i ∈ l.mv ++ l.fz, R' i = R i) : lendArg R' b x = some l := by
  unfold lendArg at h ⊢
  split at h
  · rename_i hb
    simp only [hb, if_true]
    split at h
    · rename_i id
      split at h
      · rename_i cs hr
        split at h
        · rename_i cs' m z hx
          simp only [Option.some.injEq] at h; subst h
          rw [hR id (by simp), hr]
          simp only
          rw [exL_local (fun i => R' i = R i) (fun c x h hp => exCell_local h hp) hx fun i hi => hR i (by simp only [List.mem_append, List.mem_cons] at hi ⊢; rcases hi with hi | hi <;> simp [hi])]
        · cases h
      · cases h
    · rename_i id len
      split at h
      · rename_i sz es hr
        split at h
        · rename_i hl
          simp only [Option.some.injEq] at h; subst h
          rw [hR id (by simp), hr]
          simp [hl]
        · cases h
      · cases h
    · cases h
  · rename_i hb
    simp only [hb]
    split at h
    · rename_i v' ids hf
      simp only [Option.some.injEq] at h; subst h
      rw [frz_local _ hf fun i hi => hR i (by simpa using hi)]
      rfl
    · cases h

theorem lendArgs_local {bor : List Nat} : ∀ {xs : List AV} {k : Nat} {l : Lent}, lendArgs R bor k xs = some l → (∀ i ∈ l.mv ++ l.fz, R' i = R i) → lendArgs R' bor k xs = some l
  | [], k, l, h, _ => h
  | x :: xs, k, l, h, hR => by
    simp only [lendArgs] at h ⊢
    split at h
    · cases h
    · rename_i la hla
      split at h
      · cases h
      · rename_i lb hlb
        simp only [Option.some.injEq] at h; subst h
        simp only [List.mem_append] at hR
        rw [lendArg_local hla fun i hi => hR i (by simp only [List.mem_append] at hi; rcases hi with hi | hi <;> simp [hi])]
        simp only
        rw [lendArgs_local hlb fun i hi => hR i (by simp only [List.mem_append] at hi; rcases hi with hi | hi <;> simp [hi])]

theorem lendArgs_out {bor : List Nat} : ∀ {xs : List AV} {k : Nat} {l : Lent}, lendArgs R bor k xs = some l → ∀ i ∈ l.out, i ∈ l.mv
  | [], k, l, h => by simp [lendArgs] at h; subst h; simp
  | x :: xs, k, l, h => by
    simp only [lendArgs] at h
    split at h
    · cases h
    · rename_i la hla
      split at h
      · cases h
      · rename_i lb hlb
        simp only [Option.some.injEq] at h; subst h
        have ih := lendArgs_out hlb
        intro i hi
        rcases List.mem_append.1 hi with hi | hi
        · refine List.mem_append_left _ ?_
          unfold lendArg at hla
          split at hla
          · split at hla
            · split at hla
              · split at hla
                · simp only [Option.some.injEq] at hla; subst hla; simp at hi; simp [hi]
                · cases hla
              · cases hla
            · split at hla
              · split at hla
                · simp only [Option.some.injEq] at hla; subst hla; simpa using hi
                · cases hla
              · cases hla
            · cases hla
          · split at hla
            · simp only [Option.some.injEq] at hla; subst hla; simp at hi
            · cases hla
        · exact List.mem_append_right _ (ih i hi)

theorem backs_local : ∀ {out : List Nat} {outs : List AV} {n : Nat}, (∀ i ∈ out, R' i = R i) → backs R' n out outs = backs R n out outs
  | [], outs, n, _ => by cases outs <;> rfl
  | id :: ids, outs, n, h => by
    cases outs with
    | nil => rfl
    | cons x outs =>
      have h0 := h id (by simp)
      have ih : ∀ n, backs R' n ids outs = backs R n ids outs := fun n => backs_local fun i hi => h i (List.mem_cons_of_mem _ hi)
      cases x <;> simp only [backs, h0, ih]

theorem elemsOf_local {sz : Nat} {v : AV} {r : List AV × List Nat} (h : elemsOf R sz v = some r) (hR : ∀ i ∈ r.2, R' i = R i) : elemsOf R' sz v = some r := by
  unfold elemsOf at h ⊢
  split at h
  · exact h
  · exact h
  · rename_i id off len
    split at h
    · rename_i sz' es hr
      split at h
      · rename_i hc
        simp only [Option.some.injEq] at h; subst h
        rw [hR id (by simp), hr]
        simp [hc]
      · cases h
    · cases h
  · cases h

theorem mkList_parts {g : AOpd → Option AV} : ∀ {ps : List (Nat × AOpd)} {qs : List (Nat × AV × List Nat)}, mapO (mkPart g R) ps = some qs → (∀ i ∈ qs.flatMap (fun p => p.2.2), R' i = R i) → mapO (mkPart g R') ps = some qs
  | [], qs, h, _ => h
  | p :: ps, qs, h, hR => by
    simp only [mapO] at h ⊢
    split at h
    · cases h
    · rename_i y hy
      split at h
      · cases h
      · rename_i ys hys
        simp only [Option.some.injEq] at h
        subst h
        simp only [List.flatMap_cons, List.mem_append] at hR
        rw [mkList_parts hys fun i hi => hR i (.inr hi)]
        have : mkPart g R' p = some y := by
          unfold mkPart at hy ⊢
          split at hy
          · rename_i v hv
            split at hy
            · rename_i v' ids hf
              simp only [Option.some.injEq] at hy
              subst hy
              rw [frz_local _ hf fun i hi => hR i (.inl hi)]
            · cases hy
          · cases hy
        rw [this]

theorem evalOp_local {call : CallF} {s : Nat} {g : AOpd → Option AV} {op : AOp} {e : Eff} (h : evalOp call s g R op = some e) (hR : ∀ i ∈ e.rd, R' i = R i) : evalOp call s g R' op = some e := by
  cases op <;> simp only [evalOp] at h ⊢ <;> try exact h
  case mkList sz zero len parts =>
    unfold evMkList at h ⊢
    split at h
    · rename_i ps hps
      split at h
      · rename_i es hes
        split at h
        · rename_i hl
          -- no elements: nothing depends on what was looked at but the parts
          simp only [Option.some.injEq] at h; subst h
          by_cases hp : parts = []
          · subst hp; simp [mapO] at hps; subst hps; simp [mapO] at hes ⊢; simp [setElems, hl] at hes ⊢
          · exfalso
            obtain ⟨l1, _⟩ := mapO_spec hps
            subst hl
            cases ps with
            | nil => simp at l1; exact hp (List.eq_nil_of_length_eq_zero l1.symm)
            | cons p ps => simp [setElems] at hes
        · rename_i hl
          simp only [Option.some.injEq] at h; subst h
          rw [mkList_parts hps hR]
          simp only [hes, hl, if_false]
      · cases h
    · cases h
  case load n ag x =>
    unfold evLoad at h ⊢
    split at h
    · exact h
    · rename_i id idx off hg
      split at h
      · rename_i sz es hr
        split at h
        · rename_i y hy
          split at h
          · rename_i v hp
            simp only [Option.some.injEq] at h; subst h
            simp only [hR id (by simp), hr, hy, hp]
          · cases h
        · cases h
      · rename_i cs hr
        split at h
        · rename_i hz
          split at h
          · rename_i v hp
            simp only [Option.some.injEq] at h; subst h
            simp only [hR id (by simp), hr, hz, hp, if_true]
          · cases h
        · cases h
      · cases h
    · cases h
  case store n x y =>
    unfold evStore at h ⊢
    split at h
    · rename_i id idx off v hgx hgy
      split at h
      · rename_i hc
        simp only [hc, and_self, if_true]
        split at h
        · rename_i sz es hr
          split at h
          · rename_i el hel
            split at h
            · rename_i hoff
              split at h
              · rename_i xs ids hf
                split at h
                · rename_i el' hre
                  split at h
                  · cases h
                  · rename_i hni
                    simp only [Option.some.injEq] at h; subst h
                    rw [hR id (by simp), hr]
                    simp only [hel, hoff, if_true]
                    rw [frzL_local (fun i => R' i = R i) (fun c c' i h hp => frz_local _ h hp) hf fun x hx => hR x (List.mem_cons_of_mem _ hx)]
                    simp only [hre, hni]
                    rfl
                · cases h
              · cases h
            · cases h
          · cases h
        · rename_i cs hr
          split at h
          · rename_i hz
            simp only [Option.some.injEq] at h; subst h
            rw [hR id (by simp), hr]
            simp only [hz, and_self, if_true]
          · cases h
        · cases h
      · cases h
    · cases h
  case slice sz x lo hi =>
    unfold evSlice at h ⊢
    split at h
    · split at h
      · rename_i id off len hh hgh hgx
        split at h
        · rename_i sz' es hr
          split at h
          · split at h
            · rename_i hc
              simp only [Option.some.injEq] at h; subst h
              simp only [hR id (by simp), hr]
              simp_all
            · cases h
          · cases h
        · cases h
      · exact h
      · cases h
    · cases h
  case indexA sz x i =>
    unfold evIndexA at h ⊢
    split at h
    · rename_i id off len k m hg hgi
      split at h
      · rename_i sz' es hr
        split at h
        · rename_i hc
          simp only [Option.some.injEq] at h; subst h
          simp only [hR id (by simp), hr, hc, and_self, if_true]
        · cases h
      · cases h
    · exact h
    · cases h
  case append sz d x =>
    unfold evAppend at h ⊢
    split at h
    · rename_i dv xv hgd hgx
      split at h
      · rename_i xs ids hxs
        split at h
        · rename_i sz0
          split at h
          · rename_i hle
            simp only [Option.some.injEq] at h; subst h
            rw [elemsOf_local hxs hR]
            simp [hle]
          · cases h
        · rename_i id off len
          split at h
          · rename_i sz' es hr
            split at h
            · rename_i hc
              split at h
              · rename_i hfull
                split at h
                · rename_i hle
                  simp only [Option.some.injEq] at h; subst h
                  rw [elemsOf_local hxs fun i hi => hR i (List.mem_cons_of_mem _ hi)]
                  simp only
                  rw [hR id (by simp), hr]
                  simp only [hc, and_self, hfull, if_true]
                  rw [if_pos (by rw [← hfull]; exact hle)]
                · cases h
              · rename_i hnf
                split at h
                · rename_i hle
                  simp only [Option.some.injEq] at h; subst h
                  rw [elemsOf_local hxs fun i hi => hR i (List.mem_cons_of_mem _ hi)]
                  simp only
                  rw [hR id (by simp), hr]
                  simp only [hc, and_self, if_true, hnf, if_false, hle]
                · cases h
            · cases h
          · cases h
        · cases h
      · cases h
    · cases h
  case call f args bor =>
    unfold evCall at h ⊢
    split at h
    · rename_i f' cap vs hgf hgv
      split at h
      · rename_i l hl
        split at h
        · rename_i hnd
          split at h
          · rename_i res outs hc
            simp only at h
            split at h
            · rename_i rs n hb
              split at h
              · rename_i hn
                simp only [Option.some.injEq] at h; subst h
                rw [lendArgs_local hl hR]
                simp only [hnd, if_true, hc]
                rw [backs_local (R := R) fun i hi => hR i (List.mem_append_left _ (lendArgs_out hl i hi)), hb]
                simp only [hn, if_true]
              · cases h
            · cases h
          · cases h
        · cases h
      · cases h
    · cases h
  case mapSet kk m k x =>
    unfold evMapSet at h ⊢
    split at h
    · rename_i id kk' n v hgm hgk hgx
      split at h
      · rename_i hc
        split at h
        · rename_i k0 kv hr
          split at h
          · rename_i hk0
            simp only [Option.some.injEq] at h; subst h
            simp only [hc, and_self, if_true, hR id (by simp), hr, hk0]
          · cases h
        · cases h
      · cases h
    · cases h
  case mapGet kk z ok m k =>
    unfold evMapGet at h ⊢
    split at h
    · rename_i id kk' n hgm hgk
      split at h
      · rename_i hc
        split at h
        · rename_i k0 kv hr
          split at h
          · rename_i hk0
            split at h
            · rename_i v hv
              simp only [Option.some.injEq] at h; subst h
              simp only [hc, if_true, hR id (by simp), hr, hk0, hv]
            · rename_i hv
              simp only [Option.some.injEq] at h; subst h
              simp only [hc, if_true, hR id (by simp), hr, hk0, hv]
          · cases h
        · cases h
      · cases h
    · cases h

end
end Go.Abs
