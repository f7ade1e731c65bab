/-
  Functions, and all calls of a program: what the abstract interpreter says of a call holds of the machine.
-/
import Derived.Test.YtfokmdhmaabegaaFn
set_option linter.all false
namespace Go.Abs

section
variable {P : Program} {Own : Nat → Prop} {σ : Ids} {S : Nat → Prop} {w : World} {R : Nat → Option Row}

theorem imArgs_lent : ∀ {vs : List Value} {as : List AV} {bs : List Nat} {n : Nat} {τ : Ids}, LiftL (ArgR S w) vs as bs →
    (∀ (i : Nat) v c, vs[i]? = some v → (imArgs n as).1[i]? = some c → RelV τ S w v c) → LentAt τ S w (lentVals vs as) (imArgs n as).2.2.1
  | [], [], _, n, τ, _, _ => by simp [lentVals, imArgs, LentAt]
  | v :: vs, a :: as, bs, n, τ, h, hr => by
    obtain ⟨b1, b2, h1, h2, _⟩ := h
    have h0 := hr 0 v (imArg n a).1 rfl (by simp [imArgs])
    have ih := imArgs_lent (n := (imArg n a).2.2) (τ := τ) h2 fun i v c hv hc => hr (i + 1) v c (by simpa using hv) (by simpa [imArgs] using hc)
    cases a with
    | bor cs =>
      simp only [lentVals, AV.isLent, if_true, imArgs]
      exact ⟨h0, ih⟩
    | borS sz es =>
      simp only [lentVals, AV.isLent, if_true, imArgs]
      exact ⟨h0, ih⟩
    | _ => simpa [lentVals, AV.isLent, imArgs] using ih
  | [], _ :: _, _, _, _, h, _ => h.elim
  | _ :: _, [], _, _, _, h, _ => h.elim

theorem exCell_rows {a : AV} {x : Ex} (h : exCell R a = some x) : ∀ i ∈ x.mv, ∃ r, R i = some r := by
  unfold exCell at h
  split at h
  · simp at h; subst h; simp
  · split at h
    · rename_i hr
      split at h
      · simp at h; subst h; intro i hi; simp at hi; subst hi; exact ⟨_, hr⟩
      · split at h
        · simp at h; subst h; simp
        · cases h
    · cases h
  · cases h
  · cases h
  · split at h
    · simp at h; subst h; simp
    · cases h

theorem exL_rows {f : AV → Option Ex} (hf : ∀ a x, f a = some x → ∀ i ∈ x.mv, ∃ r, R i = some r) : ∀ {as : List AV} {r : List AV × List Nat × List Nat}, exL f as = some r → ∀ i ∈ r.2.1, ∃ q, R i = some q
  | [], r, h => by simp [exL] at h; subst h; simp
  | a :: as, r, h => by
    simp only [exL] at h
    split at h
    · cases h
    · rename_i x hx
      split at h
      · cases h
      · rename_i ys m z hy
        simp at h; subst h
        intro i hi
        rcases List.mem_append.1 hi with hi | hi
        · exact hf a x hx i hi
        · exact exL_rows hf hy i hi

theorem exItem_rows {a : AV} {x : Ex} (h : exItem R a = some x) : ∀ i ∈ x.mv, ∃ r, R i = some r := by
  unfold exItem at h
  split at h
  · split at h
    · rename_i hx
      simp at h; subst h
      exact exL_rows (fun a x h => exCell_rows h) hx
    · cases h
  · exact exCell_rows h

theorem exRes_rows {a : AV} {x : Ex} (h : exRes R a = some x) : ∀ i ∈ x.mv, ∃ r, R i = some r := by
  unfold exRes at h
  split at h
  · split at h
    · rename_i hx
      simp at h; subst h
      exact exL_rows (fun a x h => exItem_rows h) hx
    · cases h
  · exact exItem_rows h

/-- what was lent, handed back -/
theorem exOuts_sound {rows : List (Nat × Row)} (hR : RowsOk Own σ S w (fun i => lk i rows)) : ∀ {ids : List (Nat × Option Nat)} {vs : List Value} {r : List AV × List Nat × List Nat}, exOuts (exOut rows) ids = some r → LentAt σ S w vs ids →
    LiftL (ArgR (Locked σ S (fun i => lk i rows) r.2.2) w) vs r.1 (blocksOf σ r.2.1) ∧ ∀ i ∈ r.2.1, ∃ q, lk i rows = some q
  | [], [], r, h, _ => by simp [exOuts] at h; subst h; simp [LiftL, blocksOf]
  | id :: ids, v :: vs, r, h, hl => by
    obtain ⟨h1, h2⟩ := hl
    simp only [exOuts] at h
    split at h
    · cases h
    · rename_i x hx
      split at h
      · cases h
      · rename_i ys m z hy
        simp at h; subst h
        obtain ⟨g1, g2⟩ := exOuts_sound hR hy h2
        have one : ArgR (Locked σ S (fun i => lk i rows) x.fz) w v x.v (blocksOf σ x.mv) ∧ ∀ i ∈ x.mv, ∃ q, lk i rows = some q := by
          unfold exOut at hx
          split at hx
          · rename_i cs hp hrow
            rw [hp] at h1
            split at hx
            · rename_i cs' m' z' hex
              simp at hx; subst hx
              refine ⟨exBox_sound hR hrow hex h1, fun i hi => ?_⟩
              rcases List.mem_cons.1 hi with rfl | hi
              · exact ⟨_, hrow⟩
              · exact exL_rows (R := fun i => lk i rows) (fun a x h => exCell_rows h) hex i hi
            · cases hx
          · rename_i n sz es hp hrow
            rw [hp] at h1
            split at hx
            · rename_i hn
              simp at hx; subst hx
              exact ⟨(row_own hR hrow rfl hn.symm h1).lock, fun i hi => by simp at hi; subst hi; exact ⟨_, hrow⟩⟩
            · cases hx
          · cases hx
        refine ⟨⟨_, _, one.1.mono (Locked.weaken fun i hi => List.mem_append_left _ hi), g1.mono fun _ _ _ => ArgR.mono (Locked.weaken fun i hi => List.mem_append_right _ hi), by simp [blocksOf_append]⟩, fun i hi => ?_⟩
        rcases List.mem_append.1 hi with hi | hi
        · exact one.2 i hi
        · exact g2 i hi
  | [], _ :: _, _, _, h => h.elim
  | _ :: _, [], _, _, h => h.elim

/-- a function -/
theorem func_sound {bor : Nat → List Nat} {hh : Hints} {fn : Func} {afn : AFn} {f n : Nat} {call : CallF} {args : List AV} {r : AV × List AV} (hcall : ∀ f vs r, call f vs = some r → CallOk P f vs r.1 r.2 ∧ Enterable P f) (hmix : P.follows .mixedOrders = true)
    (hf : P.funcs[f]? = some fn) (hc : compFn P bor hh fn = some afn) (he : evalFn call n afn args = some r) : CallOk P f args r.1 r.2 ∧ Enterable P f := by
  unfold compFn at hc
  split at hc
  · cases hc
  · rename_i c hbody
    split at hc
    · rename_i ac rs hac hrs
      split at hc
      · rename_i hcond
        simp only [Option.some.injEq] at hc; subst hc
        refine ⟨?_, fn, hf, by simp [hbody], hcond.2⟩
        unfold evalFn at he
        split at he
        · rename_i hargs
          simp only at hargs
          intro S w vs bs hA hnd hbs hold
          obtain ⟨τ, i1, i2, i3⟩ := imArgs_sound entryBase hA
          have hlent := imArgs_lent (n := entryBase) (τ := τ) hA i3
          have hvl : vs.length ≤ fn.ntmps := by rw [hA.length, hargs.1]; exact hcond.1
          let Own : Nat → Prop := fun b => w.heap.size ≤ b ∨ b ∈ bs
          let LE := (imArgs entryBase args).2.2.1
          let LL : List (Nat × Loc) := LE.map fun p => (p.1, (τ p.1).getD .virt)
          have hLE : LE.map (·.1) = LL.map (·.1) := by simp [LL]
          have hsome : ∀ (vs : List Value) (ps : List (Nat × Option Nat)), LentAt τ S w vs ps → ∀ p ∈ ps, τ p.1 = some ((τ p.1).getD .virt) := by
            intro vs ps
            induction ps generalizing vs with
            | nil => simp
            | cons q ps ih =>
              intro h p hp
              cases vs with
              | nil => exact h.elim
              | cons v vs =>
                rcases List.mem_cons.1 hp with rfl | hp
                · have h1 := h.1
                  split at h1
                  · obtain ⟨b, sz, n, c, hσ, _⟩ := h1.ptr_inv; rw [hσ]; rfl
                  · rcases h1.slice_inv with ⟨hσ, _⟩ | ⟨b, sz, n, c, cap, a, hσ, _⟩ <;> rw [hσ] <;> rfl
                · exact ih vs h.2 p hp
          have hsim : Sim Own LL fn.ntmps τ S w (fun t => lk t (enter args).tm) (fun i => lk i (enter args).rows) { tmps := vs.toArray ++ Array.replicate (fn.ntmps - vs.toArray.size) undef, defers := [] } := by
            refine ⟨fun t x hx => ?_, ⟨i1.ok, fun id r b hr hb => ⟨(hbs b (i1.blk id b hb)).1, .inr (i1.blk id b hb)⟩, fun id id' r r' b _ _ hb hb' => i1.inj hnd id id' b hb hb', hold⟩, by simp; omega, rfl, fun b hb => .inl hb, fun p hp => ?_⟩
            · obtain ⟨_, h2⟩ := enumFrom_lk hx
              simp only [Nat.sub_zero] at h2
              have hlt : t < vs.length := by rw [i2]; exact (List.getElem?_eq_some_iff.1 h2).1
              have : (vs.toArray ++ Array.replicate (fn.ntmps - vs.toArray.size) undef).getD t undef = vs[t] := by
                rw [Array.getD_eq_getD_getElem?, Array.getElem?_append_left (by simpa using hlt)]
                simp [hlt]
              show RelV τ S w ((vs.toArray ++ Array.replicate (fn.ntmps - vs.toArray.size) undef).getD t undef) x
              rw [this]
              exact i3 t _ x (List.getElem?_eq_getElem hlt) h2
            · obtain ⟨q, hq, rfl⟩ := List.mem_map.1 hp
              exact hsome _ _ hlent q hq
          have fin : ∀ (ex : AEx) (fr' : Fr), evalCode call n ac (enter args) = some (ex, fr') → (ex = .normal ∨ ex = .ret) → finish ⟨fn.params.size + fn.nfree, rs, ac⟩ fr' = some r →
              Calls P f vs.toArray w (CallPost S w bs (lentVals vs args) r.1 r.2) := by
            intro ex fr' hev hex hfin
            refine calls_of_wp hf hbody (wp_mono (code_sound (S0 := S) (w0 := w) (LE := LE) hcall hmix hLE c 0 ac hac (enter args) _ hev τ S w _ hsim (ExtW.refl ..) (fun id hid => ?_) rfl) fun e a' w' hp => ?_)
            · cases hq : τ id with
              | none => rfl
              | some l => have := i1.dom id l hq; have := hargs.2; simp only [enter] at hid; omega
            · obtain ⟨rfl, σ', S', s1, s2, s3, s4⟩ := hp
              simp only at s1 s3 s4
              unfold finish at hfin
              split at hfin
              · cases hfin
              · rename_i xs hxs
                split at hfin
                · cases hfin
                · rename_i x hx
                  split at hfin
                  · cases hfin
                  · rename_i os m z hos
                    split at hfin
                    · rename_i hnd2
                      simp only [Bool.and_eq_true] at hnd2
                      simp only [Option.some.injEq] at hfin; subst hfin
                      obtain ⟨v, v1, v2⟩ := results_run (P := P) s1.tmps s1.rows hrs hxs
                      have hres := exRes_sound s1.rows hx v2
                      have hxr := exRes_rows hx
                      rw [s4] at hos
                      have hl2 : LentAt σ' S' w' (lentVals vs args) LE := by
                        have step : ∀ (us : List Value) (ps : List (Nat × Option Nat)), (∀ p ∈ ps, σ' p.1 = τ p.1) → LentAt τ S w us ps → LentAt σ' S' w' us ps := by
                          intro us ps
                          induction ps generalizing us with
                          | nil => intro _ h; cases us <;> first | trivial | exact h.elim
                          | cons p ps ih =>
                            intro hp h
                            cases us with
                            | nil => exact h.elim
                            | cons u us =>
                              refine ⟨?_, ih us (fun q hq => hp q (List.mem_cons_of_mem _ hq)) h.2⟩
                              have h1 := h.1
                              have hpe := hp p (by simp)
                              split at h1
                              · obtain ⟨b, sz, k, c, hσ, hlt, rfl⟩ := h1.ptr_inv
                                exact .ptr _ _ _ b sz k c (hpe.trans hσ) hlt
                              · rcases h1.slice_inv with ⟨hσ, _, rfl, a, rfl⟩ | ⟨b, sz, k, c, cap, a, hσ, q1, q2, q3, q4, rfl⟩
                                · exact .sliceV _ a (hpe.trans hσ)
                                · exact .slice _ _ _ cap b sz k c a (hpe.trans hσ) q1 q2 q3 q4
                        refine step _ _ (fun p hp => ?_) hlent
                        have := s1.lent (p.1, (τ p.1).getD .virt) (List.mem_map_of_mem (f := fun p : Nat × Option Nat => (p.1, (τ p.1).getD .virt)) hp)
                        rw [this, ← hsome _ _ hlent p hp]
                      obtain ⟨o1, o2⟩ := exOuts_sound s1.rows hos hl2
                      simp only at o1 o2
                      have hallrows : ∀ i ∈ x.mv ++ m, ∃ q, lk i fr'.rows = some q := fun i hi => by
                        rcases List.mem_append.1 hi with hi | hi
                        · exact hxr i hi
                        · exact o2 i hi
                      have hpost : CallPost S w bs (lentVals vs args) x.v os (.returned v) w' := by
                        refine ⟨v, Locked σ' S' (fun i => lk i fr'.rows) (x.fz ++ z), blocksOf σ' x.mv, blocksOf σ' m, rfl, hres.mono (Locked.weaken fun i hi => List.mem_append_left _ hi), o1.mono fun _ _ _ => ArgR.mono (Locked.weaken fun i hi => List.mem_append_right _ hi), ?_, fun b hb => ?_, fun b hb => .inl (s2.imm b hb), fun b hb => ⟨?_, ?_⟩, fun b h1 h2 => s2.frame b ?_, s2.same⟩
                        · rw [← blocksOf_append]; exact blocksOf_nodup s1.rows hnd2.1 hallrows
                        · rw [← blocksOf_append] at hb
                          obtain ⟨j, hj, hjb⟩ := mem_blocksOf hb
                          obtain ⟨q, hq⟩ := hallrows j hj
                          obtain ⟨a1, a2⟩ := s1.rows.apart j q b hq hjb
                          refine ⟨?_, a2, s1.rows.lt hq hjb⟩
                          rintro (h1 | ⟨k, hk, ⟨q', hq'⟩, hkb⟩)
                          · exact a1 h1
                          · have e := s1.rows.inj j k q q' b hq hq' hjb hkb
                            subst e
                            exact disj_mem hnd2.2 hj hk
                        · rcases hb with hb | ⟨k, _, ⟨q', hq'⟩, hkb⟩
                          · rcases s2.bound b hb with h1 | h1
                            · exact .inl h1
                            · exact .inr h1
                          · exact .inr (s1.rows.apart k q' b hq' hkb).2
                        · rcases hb with hb | ⟨k, _, ⟨q', hq'⟩, hkb⟩
                          · exact s1.rows.old b hb
                          · exact s1.rows.lt hq' hkb
                        · rintro (h3 | h3)
                          · omega
                          · exact h2 h3
                      rcases hex with rfl | rfl
                      · exact ⟨s1.nodefer, v, v1, hpost⟩
                      · exact ⟨s1.nodefer, v, v1, hpost⟩
                    · cases hfin
          split at he
          · rename_i fr' hev; exact fin _ fr' hev (.inl rfl) he
          · rename_i fr' hev; exact fin _ fr' hev (.inr rfl) he
          · cases he
        · cases he
      · cases hc
    · cases hc

/-- all calls: what the abstract interpreter says of a call holds of the machine -/
theorem call_ok {bor : Nat → List Nat} {F : Nat → Option AFn} (hmix : P.follows .mixedOrders = true) (hF : ∀ f afn, F f = some afn → ∃ fn hh, P.funcs[f]? = some fn ∧ compFn P bor hh fn = some afn) :
    ∀ (n : Nat) (f : Nat) (args : List AV) (r : AV × List AV), evalCall F n f args = some r → CallOk P f args r.1 r.2 ∧ Enterable P f
  | 0, _, _, _, h => by simp [evalCall] at h
  | n + 1, f, args, r, h => by
    simp only [evalCall] at h
    split at h
    · rename_i afn hafn
      obtain ⟨fn, hh, h1, h2⟩ := hF f afn hafn
      exact func_sound (fun f vs r h => call_ok hmix hF n f vs r h) hmix h1 h2 h
    · cases h

end
end Go.Abs
