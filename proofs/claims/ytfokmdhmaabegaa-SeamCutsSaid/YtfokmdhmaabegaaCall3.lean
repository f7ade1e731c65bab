/-
  The step of a call, third part: what nobody could have kept; the step itself.
-/
import Derived.Test.YtfokmdhmaabegaaCall2
set_option linter.all false
namespace Go.Abs

section
variable {P : Program} {Own : Nat → Prop} {σ : Ids} {S S' : Nat → Prop} {w : World} {R : Nat → Option Row} {s : Nat} {T : Nat → Option AV} {a : Act} {o : Oper} {e : Eff}

theorem RelI.plain1 {u : Value} {x : AV} (hx : x.plain1 = true) (h : RelI S w u x) : RelI S' w u x := by
  cases h <;> simp [AV.plain1] at hx
  · exact .int _ _
  · exact .bool _

theorem plain_cells {x : AV} (h : x.plain = true) : ∀ c ∈ x.cells, c.plain1 = true := by
  unfold AV.plain at h
  unfold AV.cells
  split at h
  · simpa using h
  · simpa using h

theorem OwnS.fresh {v : Value} {sz : Nat} {es : List AV} {bs : List Nat} (hp : es.all AV.plain = true) (h : OwnS S w v sz es bs) : OwnS S' w v sz es bs := by
  rcases h with h | ⟨b, cap, cs, t, h1, h2, h3, h4, h5, h6, h7, h8, h10, h11⟩
  · exact .inl h
  · refine .inr ⟨b, cap, cs, t, h1, h2, h3, h4, h5, h6, h7, h8, h10, fun i x hx => ?_⟩
    obtain ⟨u, q1, q2⟩ := h11 i x hx
    refine ⟨u, q1, q2.plain1 ?_⟩
    have hm := List.mem_of_getElem? hx
    unfold flat at hm
    obtain ⟨y, hy, hyc⟩ := List.mem_flatMap.1 hm
    exact plain_cells (List.all_eq_true.1 hp y hy) x hyc

theorem OwnC.fresh {v : Value} {x : AV} {bs : List Nat} (hp : x.fresh1 = true) (h : OwnC S w v x bs) : OwnC S' w v x bs := by
  unfold OwnC at *
  unfold AV.fresh1 at hp
  split at h
  · exact OwnS.fresh hp h
  · rename_i hne
    split at hp
    · rename_i sz es; exact absurd rfl (hne sz es)
    · exact ⟨h.1, h.2.plain1 hp⟩

theorem LiftL.imp {Rel Rel' : Value → AV → List Nat → Prop} {p : AV → Bool} (hr : ∀ v a bs, p a = true → Rel v a bs → Rel' v a bs) : ∀ {vs : List Value} {as : List AV} {bs : List Nat}, as.all p = true → LiftL Rel vs as bs → LiftL Rel' vs as bs
  | [], [], _, _, h => h
  | _ :: _, _ :: _, _, hp, h => by
    simp only [List.all_cons, Bool.and_eq_true] at hp
    obtain ⟨b1, b2, h1, h2, h3⟩ := h
    exact ⟨b1, b2, hr _ _ _ hp.1 h1, h2.imp hr hp.2, h3⟩
  | [], _ :: _, _, _, h => h.elim
  | _ :: _, [], _, _, h => h.elim

theorem OwnI.fresh {v : Value} {x : AV} {bs : List Nat} (hp : x.fresh2 = true) (h : OwnI S w v x bs) : OwnI S' w v x bs := by
  unfold OwnI at *
  unfold AV.fresh2 at hp
  split at h
  · obtain ⟨vs, h1, h2⟩ := h
    exact ⟨vs, h1, h2.imp (fun _ _ _ => OwnC.fresh) hp⟩
  · rename_i hne
    split at hp
    · rename_i cs; exact absurd rfl (hne cs)
    · exact h.fresh hp

theorem OwnR.fresh {v : Value} {x : AV} {bs : List Nat} (hp : x.fresh = true) (h : OwnR S w v x bs) : OwnR S' w v x bs := by
  unfold OwnR at *
  unfold AV.fresh at hp
  split at h
  · obtain ⟨vs, h1, h2⟩ := h
    exact ⟨vs, h1, h2.imp (fun _ _ _ => OwnI.fresh) hp⟩
  · rename_i hne
    split at hp
    · rename_i cs; exact absurd rfl (hne cs)
    · exact h.fresh hp

theorem ArgR.fresh {v : Value} {x : AV} {bs : List Nat} (hp : x.freshOut = true) (h : ArgR S w v x bs) : ArgR S' w v x bs := by
  unfold ArgR at *
  unfold AV.freshOut at hp
  split at h
  · obtain ⟨b, cells, t, bs', h1, h2, h3, h4, h5, h6⟩ := h
    exact ⟨b, cells, t, bs', h1, h2, h3, h4, h5.imp (fun _ _ _ => OwnC.fresh) hp, h6⟩
  · exact OwnS.fresh hp h
  · rename_i h1 h2
    split at hp
    · exact absurd rfl (h1 _)
    · exact absurd rfl (h2 _ _)
    · cases hp

theorem updR_eq (wr : List (Nat × Option Row)) (R : Nat → Option Row) (k : Nat) : updR wr R k = match lk k wr with
    | some r => r
    | none => R k := by
  induction wr with
  | nil => rfl
  | cons p wr ih =>
    obtain ⟨i, r⟩ := p
    simp only [updR, lk]
    split
    · rfl
    · exact ih

theorem lk_gone (k : Nat) (ids : List Nat) : lk k (gone ids) = if k ∈ ids then some none else none := by
  induction ids with
  | nil => rfl
  | cons i ids ih =>
    simp only [gone, List.map_cons, lk] at ih ⊢
    by_cases h : i = k
    · simp [h]
    · simp only [h, if_false, ih, List.mem_cons, Ne.symm h, false_or]

/-- the state behind a call -/
theorem after_call {w' : World} {res : AV} {outs : List AV} {v : Value} {bs1 bs2 : List Nat} {lents : List Value} {l : Lent} {rs : List (Nat × Option Row)} {n : Nat} {S2 : Nat → Prop} {extra : List Nat}
    (hR : RowsOk Own σ S w R) (hF : Free Own σ w s) (hS2 : ∀ b, S b → S2 b) (hS2lt : ∀ b, S2 b → b < w'.heap.size)
    (h1 : OwnR S2 w' v res bs1) (h2 : LiftL (ArgR S2 w') lents outs bs2) (hnd : (bs1 ++ bs2).Nodup)
    (hnew : ∀ b ∈ bs1 ++ bs2, ¬ S2 b ∧ (w.heap.size ≤ b ∨ b ∈ blocksOf σ l.mv)) (hlr : LentRows σ S w R lents l.out) (hmv : ∀ i ∈ l.mv, ∃ r, R i = some r) (hout : ∀ i ∈ l.out, i ∈ l.mv)
    (hb : backs R (imRes s res).2.2 l.out outs = some (rs, n)) (hn : n ≤ s + siteWidth)
    (hkeep : ∀ b, b < w.heap.size → b ∉ blocksOf σ l.mv → w'.heap[b]? = w.heap[b]?) (hsame : Same w w') (hSmv : ∀ b ∈ blocksOf σ l.mv, ¬ S b)
    (hrest : ∀ id r b, R id = some r → id ∉ l.mv → id ∉ extra → Loc.has (σ id) b → ¬ S2 b) (hbound : ∀ b, S2 b → S b ∨ Own b) :
    Step Own σ S w R s ⟨(imRes s res).1, rowsWr (imRes s res).2.1 ++ rs ++ gone (l.mv.filter fun i => !l.out.contains i) ++ gone extra, l.mv ++ l.fz⟩ v w' := by
  obtain ⟨τ1, i1, r1⟩ := imRes_sound h1 s
  obtain ⟨τ2, le2, dom2, hτ2⟩ := backs_sound hR h2 hlr hb
  have hw32 : siteWidth = 32 := rfl
  have d1 : ∀ id l, τ1 id = some l → σ id = none := fun id l h => hF.ids id (i1.dom id l h).1 (by have := (i1.dom id l h).2; omega)
  have d2 : ∀ id l, τ2 id = some l → σ id = none := fun id l h => hF.ids id (by have := (dom2 id l h).1; have := i1.le; omega) (by have := (dom2 id l h).2; omega)
  have d12 : ∀ id l l', τ1 id = some l → τ2 id = some l' → False := fun id l l' h h' => by
    have := i1.dom id l h
    have := dom2 id l' h'
    omega
  let ρ : Ids := σ.union (τ1.union τ2)
  have hσρ : σ.le ρ := Ids.le_union_left _ _
  have h12 : (τ1.union τ2).le ρ := Ids.le_union_right fun id l l' h h' => by
    unfold Ids.union at h'
    cases h1 : τ1 id with
    | some q => rw [d1 id q h1] at h; cases h
    | none => rw [h1] at h'; rw [d2 id l' h'] at h; cases h
  have hτ1ρ : τ1.le ρ := fun k l h => h12 k l (Ids.le_union_left _ _ k l h)
  have hτ2ρ : τ2.le ρ := fun k l h => h12 k l (Ids.le_union_right d12 k l h)
  obtain ⟨ok2, blk2, inj2, key2, out2⟩ := hτ2 ρ hσρ hτ2ρ
  have hSkeep : ∀ b, S b → w'.heap[b]? = w.heap[b]? := fun b hb => hkeep b (hR.old b hb) fun hm => hSmv b hm hb
  obtain ⟨nd1, nd2, nd3⟩ := List.nodup_append.1 hnd
  -- which rows there are
  have parts : ∀ k r, updR (rowsWr (imRes s res).2.1 ++ rs ++ gone (l.mv.filter fun i => !l.out.contains i) ++ gone extra) R k = some r →
      lk k (imRes s res).2.1 = some r ∨ (lk k rs = some (some r)) ∨ (R k = some r ∧ k ∉ l.mv ∧ k ∉ extra ∧ lk k (imRes s res).2.1 = none ∧ lk k rs = none) := by
    intro k r hk
    rw [updR_eq, lk_append, lk_append, lk_append, lk_rowsWr, lk_gone, lk_gone] at hk
    cases hq1 : lk k (imRes s res).2.1 with
    | some r' => rw [hq1] at hk; simp at hk; subst hk; exact .inl rfl
    | none =>
      rw [hq1] at hk
      cases hq2 : lk k rs with
      | some r' => rw [hq2] at hk; simp at hk; subst hk; exact .inr (.inl rfl)
      | none =>
        rw [hq2] at hk
        simp only [Option.map_none, Option.none_or] at hk
        have hnout : k ∉ l.out := fun hm => by obtain ⟨r', hr'⟩ := out2 k hm; rw [hq2] at hr'; cases hr'
        by_cases hm : k ∈ l.mv
        · have : k ∈ l.mv.filter fun i => !l.out.contains i := by simp [hm, hnout]
          rw [if_pos this] at hk; simp at hk
        · have : k ∉ l.mv.filter fun i => !l.out.contains i := by simp [hm]
          by_cases hx : k ∈ extra
          · rw [if_neg this, if_pos hx] at hk; simp at hk
          · rw [if_neg this, if_neg hx] at hk; simp at hk
            exact .inr (.inr ⟨hk, hm, hx, rfl, rfl⟩)
  have has1 : ∀ k r b, lk k (imRes s res).2.1 = some r → Loc.has (ρ k) b → Loc.has (τ1 k) b := by
    intro k r b hk hb
    obtain ⟨q, hq⟩ := (i1.ok k r hk).some
    exact has_le hτ1ρ hq hb
  have has3 : ∀ k r b, R k = some r → Loc.has (ρ k) b → Loc.has (σ k) b := by
    intro k r b hk hb
    obtain ⟨q, hq⟩ := (hR.ok k r hk).some
    exact has_le hσρ hq hb
  have oldBlk : ∀ k r b, R k = some r → k ∉ l.mv → Loc.has (σ k) b → b < w.heap.size ∧ b ∉ blocksOf σ l.mv := by
    intro k r b hk hm hb
    refine ⟨hR.lt hk hb, fun hmem => ?_⟩
    obtain ⟨j, hj, hjb⟩ := mem_blocksOf hmem
    obtain ⟨r', hr'⟩ := hmv j hj
    exact hm (hR.inj k j r r' b hk hr' hb hjb ▸ hj)
  have newBlk : ∀ b, b ∈ bs1 ++ bs2 → ¬ (b < w.heap.size ∧ b ∉ blocksOf σ l.mv) := by
    intro b hb ⟨q1, q2⟩
    rcases (hnew b hb).2 with h | h
    · omega
    · exact q2 h
  have ownMv : ∀ b, b ∈ blocksOf σ l.mv → Own b := by
    intro b hb
    obtain ⟨j, hj, hjb⟩ := mem_blocksOf hb
    obtain ⟨r', hr'⟩ := hmv j hj
    exact (hR.apart j r' b hr' hjb).2
  refine ⟨ρ, S2, r1.mono hτ1ρ (fun _ h => h) fun _ _ => rfl, ⟨fun k r hk => ?_, fun k r b hk hb => ?_, fun k k' r r' b hk hk' hb hb' => ?_, hS2lt⟩, ⟨hσρ, hS2, hSkeep, fun b hb => ?_, hsame, hbound⟩, fun id hid => ?_⟩
  · rcases parts k r hk with hq | hq | ⟨hq, hm, hx, _⟩
    · exact (i1.ok k r hq).ids hτ1ρ
    · exact ok2 k r hq
    · exact (hR.ok k r hq).mono hσρ hS2 hSkeep fun b hb => hkeep b (oldBlk k r b hq hm hb).1 (oldBlk k r b hq hm hb).2
  · rcases parts k r hk with hq | hq | ⟨hq, hm, hx, _⟩
    · have hbm := List.mem_append_left bs2 (i1.blk k b (has1 k r b hq hb))
      refine ⟨(hnew b hbm).1, ?_⟩
      rcases (hnew b hbm).2 with h | h
      · exact hF.own b h
      · exact ownMv b h
    · have hbm := List.mem_append_right bs1 (blk2 k r b hq hb)
      refine ⟨(hnew b hbm).1, ?_⟩
      rcases (hnew b hbm).2 with h | h
      · exact hF.own b h
      · exact ownMv b h
    · have hb' := has3 k r b hq hb
      exact ⟨hrest k r b hq hm hx hb', (hR.apart k r b hq hb').2⟩
  · rcases parts k r hk with hq | hq | ⟨hq, hm, hx, _⟩ <;> rcases parts k' r' hk' with hq' | hq' | ⟨hq', hm', hx', _⟩
    · exact i1.inj nd1 k k' b (has1 k r b hq hb) (has1 k' r' b hq' hb')
    · exact absurd rfl (nd3 b (i1.blk k b (has1 k r b hq hb)) b (blk2 k' r' b hq' hb'))
    · exact absurd (oldBlk k' r' b hq' hm' (has3 k' r' b hq' hb')) (newBlk b (List.mem_append_left _ (i1.blk k b (has1 k r b hq hb))))
    · exact absurd rfl (nd3 b (i1.blk k' b (has1 k' r' b hq' hb')) b (blk2 k r b hq hb))
    · exact inj2 nd2 k k' r r' b hq hq' hb hb'
    · exact absurd (oldBlk k' r' b hq' hm' (has3 k' r' b hq' hb')) (newBlk b (List.mem_append_right _ (blk2 k r b hq hb)))
    · exact absurd (oldBlk k r b hq hm (has3 k r b hq hb)) (newBlk b (List.mem_append_left _ (i1.blk k' b (has1 k' r' b hq' hb'))))
    · exact absurd (oldBlk k r b hq hm (has3 k r b hq hb)) (newBlk b (List.mem_append_right _ (blk2 k' r' b hq' hb')))
    · exact hR.inj k k' r r' b hq hq' (has3 k r b hq hb) (has3 k' r' b hq' hb')
  · exact hkeep b (Nat.lt_of_not_le fun hle => hb (hF.own b hle)) fun hm => hb (ownMv b hm)
  · show ρ id = σ id
    have hle1 := i1.le
    cases hσ : σ id with
    | some q => exact hσρ id q hσ
    | none =>
      show (match σ id with | some q => some q | none => (τ1.union τ2) id) = none
      rw [hσ]
      show (match τ1 id with | some q => some q | none => τ2 id) = none
      cases h1 : τ1 id with
      | some q => have := i1.dom id q h1; omega
      | none =>
        show τ2 id = none
        cases h2 : τ2 id with
        | some q => have := dom2 id q h2; omega
        | none => rfl

def Enterable (P : Program) (f : Nat) : Prop := ∃ fn, P.funcs[f]? = some fn ∧ fn.body.isNone = false ∧ (fn.name == "runtime.NumGoroutine") = false

theorem call_sound {fo : Operand} {args : Array Operand} {ats : Array TypeId} {af : AOpd} {aargs : List AOpd} {bor : List Nat} {call : CallF} {K : Act → World → Prop} {Q : Exit → Act → World → Prop}
    (hT : TmpsOk σ S w T a) (hR : RowsOk Own σ S w R) (hF : Free Own σ w s) (ho : o.op = .call ⟨.value fo, args, ats⟩) (hf : opd P none fo = some af) (hargs : opdsOf P args.toList ats.toList = some aargs)
    (h : evCall call s (getO T) R af aargs bor = some e) (hcall : ∀ f vs r, call f vs = some r → CallOk P f vs r.1 r.2 ∧ Enterable P f)
    (hK : ∀ v w', Step Own σ S w R s e v w' → K (a.put o.dst v) w') : o.wp P a w K Q := by
  unfold evCall at h
  split at h
  · rename_i f cap vs hgf hgv
    split at h
    · rename_i l hl
      split at h
      · rename_i hnd
        simp only [Bool.and_eq_true] at hnd
        obtain ⟨hnd, hdis⟩ := hnd
        split at h
        · rename_i res outs hc
          obtain ⟨hok, fn, hfn, hbody, hname⟩ := hcall f l.vs _ hc
          simp only at h
          split at h
          · rename_i rs n hb
            split at h
            · rename_i hn
              simp only [Option.some.injEq] at h
              -- the function and the arguments
              have hvf := opd_sound hT hf hgf
              have hfv : ∃ caps, a.eval fo = .func (.func f) #[] caps ∧ caps.size = cap.length ∧ ∀ (i : Nat) v c, caps[i]? = some v → cap[i]? = some c → RelV σ S w v c := by
                generalize a.eval fo = vf at hvf
                cases hvf with
                | imm hv => cases hv with | func _ us _ hl hr => exact ⟨us, rfl, hl, fun i v c h1 h2 => .imm (hr i v c h1 h2)⟩
                | func _ us _ hl hr => exact ⟨us, rfl, hl, hr⟩
              obtain ⟨caps, hef, hcl, hcr⟩ := hfv
              obtain ⟨o1, o2⟩ := opdsOf_spec hargs
              obtain ⟨m1, m2⟩ := mapO_spec hgv
              have hallen : (args.toList.map a.eval ++ caps.toList).length = (vs ++ cap).length := by simp at o1 ⊢; omega
              have hall : ∀ (i : Nat) v c, (args.toList.map a.eval ++ caps.toList)[i]? = some v → (vs ++ cap)[i]? = some c → RelV σ S w v c := by
                intro i v c hv hc'
                have hl1 : (args.toList.map a.eval).length = vs.length := by simp at o1 ⊢; omega
                by_cases hi : i < vs.length
                · rw [List.getElem?_append_left (by omega)] at hv
                  rw [List.getElem?_append_left hi] at hc'
                  rw [List.getElem?_map] at hv
                  simp only [Option.map_eq_some_iff] at hv
                  obtain ⟨x, hx, rfl⟩ := hv
                  have hia : i < aargs.length := by omega
                  obtain ⟨t, ht⟩ := o2 i x _ hx (List.getElem?_eq_getElem hia)
                  exact opd_sound hT ht (m2 i _ c (List.getElem?_eq_getElem hia) hc')
                · rw [List.getElem?_append_right (by omega)] at hv
                  rw [List.getElem?_append_right (by omega)] at hc'
                  rw [hl1, Array.getElem?_toList] at hv
                  exact hcr _ v c hv hc'
              obtain ⟨g1, g2, g3, g4⟩ := lendArgs_sound hR hl hallen hall
              have hrun : (execOp a.eval o).run P w = .ok (.enter f (args.toList.map a.eval ++ caps.toList).toArray) w := by
                have harr : args.map a.eval ++ caps = (args.toList.map a.eval ++ caps.toList).toArray := by
                  apply Array.ext'
                  simp
                simp only [execOp, ho, resolve, hef, Deferred.ofValue, pure_bind, invoke, callFunc, Sem.run_bind, run_program, Result.andThen_ok, hfn, hname, hbody, Bool.false_eq_true, if_false, Array.empty_append, Sem.run_pure]
                rw [harr]
              unfold Oper.wp
              rw [hrun]
              simp only [Oper.upon]
              have hbl : ∀ b ∈ blocksOf σ l.mv, ¬ Locked σ S R l.fz b ∧ b < w.heap.size := by
                intro b hb
                obtain ⟨j, hj, hjb⟩ := mem_blocksOf hb
                obtain ⟨r', hr'⟩ := g2 j hj
                refine ⟨?_, hR.lt hr' hjb⟩
                rintro (h1 | ⟨k, hk, ⟨q, hq⟩, hkb⟩)
                · exact (hR.apart j r' b hr' hjb).1 h1
                · have := hR.inj j k r' q b hr' hq hjb hkb
                  subst this
                  have := List.all_eq_true.1 hdis j hj
                  simp at this
                  exact this hk
              have hlk := (hR.lock l.fz).1.old
              refine Calls.mono (hok (Locked σ S R l.fz) w _ (blocksOf σ l.mv) g1 (blocksOf_nodup hR hnd g2) hbl hlk) fun en w' hpost => ?_
              obtain ⟨v, S', bs1, bs2, rfl, p1, p2, p3, p4, p5, p6, p7, p8⟩ := hpost
              refine hK v w' ?_
              subst h
              have hSmv : ∀ b ∈ blocksOf σ l.mv, ¬ S b := fun b hb hS => (hbl b hb).1 (.inl hS)
              have hnew : ∀ b ∈ bs1 ++ bs2, w.heap.size ≤ b ∨ b ∈ blocksOf σ l.mv := fun b hb => (p4 b hb).2.1
              by_cases hfr : (res.fresh && outs.all AV.freshOut) = true
              · simp only [hfr, if_true]
                simp only [Bool.and_eq_true] at hfr
                have key := after_call (extra := []) hR hF (S2 := S) (fun _ h => h) (fun b hb => Nat.lt_of_lt_of_le (hR.old b hb) p8.size) (p1.fresh hfr.1) (p2.imp (fun _ _ _ => ArgR.fresh) hfr.2) p3
                  (fun b hb => ⟨fun hS => (p4 b hb).1 (p5 b (.inl hS)), hnew b hb⟩) g4 g2 g3 hb hn p7 p8 hSmv (fun id r b hr _ _ hb => (hR.apart id r b hr hb).1) (fun _ h => .inl h)
                simpa [gone] using key
              · simp only [hfr]
                exact after_call (extra := l.fz) hR hF (S2 := S') (fun b hb => p5 b (.inl hb)) (fun b hb => (p6 b hb).2) p1 p2 p3 (fun b hb => ⟨(p4 b hb).1, hnew b hb⟩) g4 g2 g3 hb hn p7 p8 hSmv
                  (fun id r b hr hm hx hb hS => by
                    rcases (p6 b hS).1 with (h1 | ⟨k, hk, ⟨q, hq⟩, hkb⟩) | h1 | h1
                    · exact (hR.apart id r b hr hb).1 h1
                    · exact hx (hR.inj id k r q b hr hq hb hkb ▸ hk)
                    · have := hR.lt hr hb; omega
                    · obtain ⟨j, hj, hjb⟩ := mem_blocksOf h1
                      obtain ⟨r', hr'⟩ := g2 j hj
                      exact hm (hR.inj id j r r' b hr hr' hb hjb ▸ hj))
                  (fun b hS => by
                    rcases (p6 b hS).1 with (h1 | ⟨k, hk, ⟨q, hq⟩, hkb⟩) | h1 | h1
                    · exact .inl h1
                    · exact .inr (hR.apart k q b hq hkb).2
                    · exact .inr (hF.own b h1)
                    · obtain ⟨j, hj, hjb⟩ := mem_blocksOf h1
                      obtain ⟨r', hr'⟩ := g2 j hj
                      exact .inr (hR.apart j r' b hr' hjb).2)
            · cases h
          · cases h
        · cases h
      · cases h
    · cases h
  · cases h

end
end Go.Abs
