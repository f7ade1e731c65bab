/-
  Steps of operations, sixth part: append; maps; equality.
-/
import Derived.Test.YtfokmdhmaabegaaOps5
import Derived.Laws.StructEq
set_option linter.all false
namespace Go.Abs

section
variable {P : Program} {Own : Nat → Prop} {σ : Ids} {S : Nat → Prop} {w : World} {R : Nat → Option Row} {s : Nat} {T : Nat → Option AV} {a : Act} {o : Oper} {e : Eff}

/-- a row gets another number, and is written in its place -/
theorem RowsOk.move {w' : World} {id : Nat} {r0 row : Row} {b0 : Nat} {l : Loc} (h : RowsOk Own σ S w R) (hs : σ s = none) (hid : R id = some r0) (hb0 : Loc.has (σ id) b0)
    (hl : l.block = some b0) (hw : ∀ b, b ≠ b0 → w'.heap[b]? = w.heap[b]?) (hS : Same w w') (hr : (∀ b, S b → w'.heap[b]? = w.heap[b]?) → RowOk (σ.set s l) S w' s row) :
    RowsOk Own (σ.set s l) S w' (updR [(s, some row), (id, none)] R) ∧ Ext Own σ S w (σ.set s l) S w' := by
  obtain ⟨hnS, hOwn⟩ := h.apart id r0 b0 hid hb0
  have hkeep : ∀ b, S b → w'.heap[b]? = w.heap[b]? := fun b hb => hw b (by rintro rfl; exact hnS hb)
  have hle : σ.le (σ.set s l) := Ids.le_set hs
  have hR : ∀ j r, j ≠ s → updR [(s, some row), (id, none)] R j = some r → R j = some r ∧ j ≠ id := fun j r hne hi => by
    simp only [updR, Ne.symm hne, if_false] at hi
    split at hi
    · cases hi
    · rename_i hne'; exact ⟨hi, Ne.symm hne'⟩
  have hsb : ∀ b, Loc.has ((σ.set s l) s) b → b = b0 := by
    rintro b ⟨l', hl', hb⟩
    simp at hl'; subst hl'
    rw [hl] at hb; cases hb; rfl
  refine ⟨⟨fun j r hi => ?_, fun j r b hi hb => ?_, fun j j' r r' b hi hi' hb hb' => ?_, fun b hb => Nat.lt_of_lt_of_le (h.old b hb) hS.size⟩, hle, fun _ h => h, hkeep, fun b hb => hw b ?_, hS, fun _ h => .inl h⟩
  · by_cases hne : j = s
    · subst hne
      simp [updR] at hi
      subst hi; exact hr hkeep
    · obtain ⟨hi', hnid⟩ := hR j r hne hi
      refine (h.ok j r hi').mono hle (fun _ h => h) hkeep fun b hb => hw b ?_
      rintro rfl
      exact hnid (h.inj j id r r0 b hi' hid hb hb0)
  · by_cases hne : j = s
    · subst hne
      have := hsb b hb
      subst this
      exact ⟨hnS, hOwn⟩
    · rw [Ids.set_other hne] at hb
      exact h.apart j r b (hR j r hne hi).1 hb
  · by_cases hne : j = s
    · by_cases hne' : j' = s
      · rw [hne, hne']
      · subst hne
        have := hsb b hb
        subst this
        rw [Ids.set_other hne'] at hb'
        obtain ⟨hi'', hnid⟩ := hR j' r' hne' hi'
        exact absurd (h.inj j' id r' r0 b hi'' hid hb' hb0) hnid
    · by_cases hne' : j' = s
      · subst hne'
        have := hsb b hb'
        subst this
        rw [Ids.set_other hne] at hb
        obtain ⟨hi'', hnid⟩ := hR j r hne hi
        exact absurd (h.inj j id r r0 b hi'' hid hb hb0) hnid
      · rw [Ids.set_other hne] at hb
        rw [Ids.set_other hne'] at hb'
        exact h.inj j j' r r' b (hR j r hne hi).1 (hR j' r' hne' hi').1 hb hb'
  · rintro rfl; exact hb hOwn

/-- what is appended -/
theorem elems_src {sz : Nat} {av : AV} {v : Value} {xs : List AV} {ids : List Nat} (hR : RowsOk Own σ S w R) (hv : RelV σ S w v av) (h : elemsOf R sz av = some (xs, ids)) :
    ∃ ad cap, v = .slice ad xs.length cap ∧ (∀ e ∈ xs, Elem sz e) ∧ (xs ≠ [] → ∃ b o, ad = some ⟨b, o, none⟩ ∧ ∃ news : List Value, news.length = xs.length * sz ∧
      (∀ (j : Nat) u, news[j]? = some u → w.cell? ⟨b, o + j, none⟩ = some u) ∧ ∀ (j : Nat) u x, news[j]? = some u → (flat xs)[j]? = some x → RelI S w u x) := by
  unfold elemsOf at h
  split at h
  · simp at h; obtain ⟨rfl, rfl⟩ := h
    cases hv with | imm hv => cases hv; exact ⟨_, _, rfl, by simp, by simp⟩
  · split at h
    · rename_i sz' es hsz
      subst hsz
      simp at h; obtain ⟨rfl, rfl⟩ := h
      cases hv with
      | imm hv =>
        cases hv with
        | list0 => exact ⟨_, _, rfl, by simp, by simp⟩
        | list b o sz cap _ f hb hcap he hc hr =>
          have hfl := flat_length he
          refine ⟨_, _, rfl, he, fun _ => ⟨b, o, rfl, (List.range (es.length * sz')).map f, by simp, fun j u hu => ?_, fun j u x hu hx => ?_⟩⟩
          · rw [List.getElem?_map] at hu
            simp only [Option.map_eq_some_iff] at hu
            obtain ⟨k, hk, rfl⟩ := hu
            have hlt : j < es.length * sz' := by have := (List.getElem?_eq_some_iff.1 hk).1; simpa using this
            rw [List.getElem?_range hlt] at hk
            cases hk
            exact hc j hlt
          · rw [List.getElem?_map] at hu
            simp only [Option.map_eq_some_iff] at hu
            obtain ⟨k, hk, rfl⟩ := hu
            have hlt : j < es.length * sz' := by have := (List.getElem?_eq_some_iff.1 hk).1; simpa using this
            rw [List.getElem?_range hlt] at hk
            cases hk
            exact hr j x hx
    · cases h
  · rename_i id off len
    split at h
    · rename_i sz' es hr
      split at h
      · rename_i hc
        obtain ⟨rfl, hle⟩ := hc
        simp at h; obtain ⟨rfl, rfl⟩ := h
        have hlen : ((es.drop off).take len).length = len := by simp; omega
        cases hv with
        | imm hv => cases hv
        | sliceV id ad hσ => exact ⟨ad, 0, by simp, by simp, by simp⟩
        | slice id off len cap b sz n' c ad hσ q1 q2 q3 q4 =>
          rcases hR.ok id _ hr with ⟨hk, _⟩ | ⟨b', c', cells, t', hk, hh', hs, hn', _, hp', hel, hf⟩
          · rw [hk] at hσ; cases hσ
          · have q := hk.symm.trans hσ
            simp only [Option.some.injEq, Loc.row.injEq] at q
            obtain ⟨rfl, rfl, rfl, rfl⟩ := q
            have hee : ∀ e ∈ (es.drop off).take len, Elem sz' e := fun e hm => hel e (List.mem_of_mem_drop (List.mem_of_mem_take hm))
            refine ⟨_, _, by rw [hlen], hee, fun hne => ?_⟩
            have hl0 : len ≠ 0 := by rintro rfl; simp at hne
            have had := q4 (by omega)
            subst had
            have hfit : off * sz' + len * sz' ≤ cells.size := by
              refine Nat.le_trans ?_ hs
              rw [← Nat.add_mul]; exact Nat.mul_le_mul_right _ (by omega)
            refine ⟨b', off * sz', rfl, (cells.toList.drop (off * sz')).take (len * sz'), by rw [hlen]; simp; omega, fun j u hu => ?_, fun j u x hu hx => ?_⟩
            · rw [cell_of_row w b' _ cells t' (0, 0) hh']
              rw [List.getElem?_take] at hu
              split at hu
              · rw [List.getElem?_drop, Array.getElem?_toList] at hu; exact hu
              · cases hu
            · rw [flat_take (fun e hm => hel e (List.mem_of_mem_drop hm)), flat_drop hel] at hx
              have h1 := List.getElem?_take (l := List.drop (off * sz') (flat es)) (i := len * sz') (j := j)
              rw [h1] at hx
              have h2 := List.getElem?_take (l := List.drop (off * sz') cells.toList) (i := len * sz') (j := j)
              rw [h2] at hu
              split at hx
              · rw [List.getElem?_drop] at hx
                rw [if_pos (by assumption), List.getElem?_drop, Array.getElem?_toList] at hu
                obtain ⟨v', hv', hrel⟩ := hf _ x hx
                rw [hu] at hv'; cases hv'
                exact hrel
              · cases hx
      · cases h
    · cases h
  · cases h

/-- nothing is appended -/
theorem run_append_zero {t ty el : TypeId} {i : TypeInfo} (ht : P.underlying t = some (.slice el)) (hi : P.info? el = some i) {base ad : Option Addr} {n c cap : Nat} (hn : n ≤ c) :
    (Builtin.append_ #[t, t] ty #[.slice base n c, .slice ad 0 cap]).run P w = .ok (.slice base n c) w := by
  have hf : (Builtin.firstCells i.size 0 (.slice ad 0 cap)).run P w = .ok #[] w := by
    cases ad with
    | none => simp [Builtin.firstCells]
    | some ad => simp [Builtin.firstCells, loadCells, loadCellsFrom]
  cases base with
  | none => simp [Builtin.append_, run_underlying ht, sizeOf, typeInfo, hi, Builtin.lenOf, hn, hf]
  | some b => simp [Builtin.append_, run_underlying ht, sizeOf, typeInfo, hi, Builtin.lenOf, hn, hf, storeCells]

/-- there is room -/
theorem run_append_in (t ty el te : TypeId) (i : TypeInfo) (ht : P.underlying t = some (.slice el)) (hi : P.info? el = some i)
    (g sLen sCap : Nat) (cur : Array Value) (hg : w.heap[g]? = some (.cells cur te (0, 0)))
    (ad : Addr) (m c : Nat) (news : List Value) (hl : news.length = m * i.size) (hnews : ∀ (j : Nat) u, news[j]? = some u → w.cell? (ad.add j) = some u) (h1 : ∀ u ∈ news, u.oneCell' = true)
    (hroom : sLen + m ≤ sCap) (hfit : sLen * i.size + news.length ≤ cur.size) :
    (Builtin.append_ #[t, t] ty #[.slice (some ⟨g, 0, none⟩) sLen sCap, .slice (some ad) m c]).run P w =
      .ok (.slice (some ⟨g, 0, none⟩) (sLen + m) sCap) (w.setRow g (cur.toList.take (sLen * i.size) ++ news ++ cur.toList.drop (sLen * i.size + news.length)).toArray) := by
  have hf := run_firstCells_some (P := P) w i.size m ad m c news hl hnews
  have hst := run_storeCells_at P g (sLen * i.size) te news 0 cur w hg (by simpa using hfit) h1
  simp only [Nat.add_zero] at hst
  simp [Builtin.append_, run_underlying ht, sizeOf, typeInfo, hi, Builtin.lenOf, hroom, hf, Addr.add_lit, hst]

theorem zeroCells_eq (z : Array Value) (n : Nat) : (Builtin.zeroCells z n).size = n * z.size := size_zeroCells z n

theorem append_sound {t el : TypeId} {i : TypeInfo} {z : Value} {d x : Operand} {ad ax : AOpd} {t1 t2 : Option TypeId} (hT : TmpsOk σ S w T a) (hR : RowsOk Own σ S w R) (hF : Free Own σ w s)
    (ho : o.op = .call ⟨.builtin .append, #[d, x], #[t, t]⟩) (ht : P.underlying t = some (.slice el)) (hi : P.info? el = some i) (hz : i.zero = some z) (hzs : z.cells.size = i.size)
    (h0 : 0 < i.size) (hby : i.bytes ≤ 4096) (hd : opd P t1 d = some ad) (hx : opd P t2 x = some ax) (h : evAppend s (getO T) R i.size ad ax = some e) :
    ∃ v w', OpRuns P a o w v w' ∧ Step Own σ S w R s e v w' := by
  have hexec : ∀ {v : Value} {w' : World}, (Builtin.append_ #[t, t] o.type #[a.eval d, a.eval x]).run P w = .ok v w' → OpRuns P a o w v w' := by
    intro v w' hr
    refine .inl ?_
    simp only [execOp, ho, resolve, invoke, builtin, pure_bind, Sem.run_bind, List.map_toArray, List.map_cons, List.map_nil, hr, Result.andThen_ok, Sem.run_pure]
  have hroom : ∀ k : Nat, k ≤ roomMax → k * i.bytes ≤ 140737488355328 := by
    intro k hk
    have h1 : k * i.bytes ≤ 34359738368 * 4096 := Nat.mul_le_mul hk hby
    omega
  unfold evAppend at h
  split at h
  · rename_i dv xv hgd hgx
    have hvd := opd_sound hT hd hgd
    have hvx := opd_sound hT hx hgx
    generalize hed : a.eval d = vd at hvd hexec
    generalize hex : a.eval x = vx at hvx hexec
    split at h
    · rename_i xs ids hxs
      obtain ⟨axd, capx, rfl, hxe, hsrc⟩ := elems_src hR hvx hxs
      have hxf := flat_length hxe
      have hxone : ∀ {news : List Value}, news.length = xs.length * i.size → (∀ (j : Nat) u x, news[j]? = some u → (flat xs)[j]? = some x → RelI S w u x) → ∀ u ∈ news, u.oneCell' = true := by
        intro news hl hr u hu
        obtain ⟨j, hj, rfl⟩ := List.getElem_of_mem hu
        have hj' : j < (flat xs).length := by omega
        refine (hr j _ _ (List.getElem?_eq_getElem hj) (List.getElem?_eq_getElem hj')).oneCell ?_
        have hm := List.getElem_mem hj'
        unfold flat at hm
        obtain ⟨y, hy, hyc⟩ := List.mem_flatMap.1 hm
        exact (hxe y hy).2 _ hyc
      split at h
      · -- nil
        rename_i sz0
        split at h
        · rename_i hle
          simp only [Option.some.injEq] at h; subst h
          have hvd' : ∃ b, vd = .slice b 0 0 := by cases hvd with | imm hvd => cases hvd; exact ⟨_, rfl⟩
          obtain ⟨base, rfl⟩ := hvd'
          by_cases hx0 : xs = []
          · subst hx0
            have hrun := run_append_zero (P := P) (w := w) (ty := o.type) ht hi (base := base) (ad := axd) (n := 0) (c := 0) (cap := capx) (Nat.le_refl _)
            refine ⟨_, _, hexec hrun, ?_⟩
            obtain ⟨q1, q2⟩ := hR.alloc (w' := w) (l := .virt) (row := .arr i.size []) hF.head hF.own (fun b hb => by cases hb) (fun _ _ => rfl) (Same.refl w) (.inl ⟨Ids.set_self .., rfl⟩)
            exact ⟨_, S, .sliceV s base (Ids.set_self ..), q1, q2, set_outside⟩
          · obtain ⟨b, ofs, rfl, news, n1, n2, n3⟩ := hsrc hx0
            have hlpos : 0 < xs.length := List.length_pos_iff.2 hx0
            have hn2 : ∀ (j : Nat) u, news[j]? = some u → w.cell? ((⟨b, ofs, none⟩ : Addr).add j) = some u := fun j u hu => by rw [Addr.add_lit]; exact n2 j u hu
            have hbytes := hroom _ hle
            have hle' : xs.length ≤ 34359738368 := hle
            have hcapge := grownCap_ge w xs.length 0 el
            have hcm : grownCap w xs.length 0 el ≤ maxLen := grownCap_le_maxLen w _ 0 el (by simp only [maxLen]; omega)
            have hrun : (Builtin.append_ #[t, t] o.type #[.slice base 0 0, .slice (some ⟨b, ofs, none⟩) xs.length capx]).run P w =
                .ok (.slice (some ⟨w.heap.size, 0, none⟩) xs.length (grownCap w xs.length 0 el)) (w.drew.alloc (.cells (news.toArray ++ Builtin.zeroCells z.cells (grownCap w xs.length 0 el - xs.length)) el)) := by
              cases base with
              | none => exact run_append_nil (P := P) w t o.type el i z ht hi hz _ _ _ news n1 hn2 hlpos (by omega) (by omega)
              | some b0 =>
                have := run_append_grow (P := P) w t o.type el i z ht hi hz b0 0 0 [] (by simp) (by simp) ⟨b, ofs, none⟩ xs.length capx news n1 hn2 (by omega) (by omega) (growslice_fits (by omega) (by simpa using hbytes))
                simpa using this
            have hsize : (news.toArray ++ Builtin.zeroCells z.cells (grownCap w xs.length 0 el - xs.length)).size = grownCap w xs.length 0 el * i.size := by
              rw [Array.size_append, zeroCells_eq, hzs]
              simp only [List.size_toArray, n1]
              rw [← Nat.add_mul]; congr 1; omega
            refine ⟨_, _, hexec hrun, new_arr (t := el) hR hF (fun b hb => heap_alloc_old w.drew _ b hb) ((Same.drew w).trans (Same.alloc ..)) (heap_alloc_new w.drew _) hsize hcapge hcm h0 hxe (fun j y hy => ?_)⟩
            have hj : j < news.length := by rw [n1, ← hxf]; exact (List.getElem?_eq_some_iff.1 hy).1
            refine ⟨news[j], ?_, n3 j _ y (List.getElem?_eq_getElem hj) hy⟩
            rw [Array.getElem?_append_left (by simpa using hj)]
            simp [hj]
        · cases h
      · -- a row
        rename_i id off len
        split at h
        · rename_i sz' es hr
          split at h
          · rename_i hc
            obtain ⟨rfl, rfl⟩ := hc
            split at h
            · rename_i hfull
              split at h
              · rename_i hle
                simp only [Option.some.injEq] at h; subst h
                have hle' : len + xs.length ≤ 34359738368 := hle
                have hbytes := hroom _ hle
                rcases hR.ok id _ hr with ⟨hk, rfl⟩ | ⟨b', c', cur, te, hk, hh, hs, hn', hmax, hp', hel, hf⟩
                · -- nowhere: as nil
                  have hvd' : ∃ b, vd = .slice b 0 0 ∧ len = 0 := by
                    cases hvd with
                    | imm hvd => cases hvd
                    | sliceV id b hσ => exact ⟨b, rfl, rfl⟩
                    | slice id off len cap b sz n' c ad hσ q1 q2 q3 q4 => rw [hk] at hσ; cases hσ
                  obtain ⟨base, rfl, rfl⟩ := hvd'
                  have hgone : RowsOk Own σ S w (updR [(id, none)] R) := hR.restrict fun j r hj => by
                    simp only [updR] at hj
                    split at hj
                    · cases hj
                    · exact hj
                  by_cases hx0 : xs = []
                  · subst hx0
                    have hrun := run_append_zero (P := P) (w := w) (ty := o.type) ht hi (base := base) (ad := axd) (n := 0) (c := 0) (cap := capx) (Nat.le_refl _)
                    refine ⟨_, _, hexec hrun, ?_⟩
                    obtain ⟨q1, q2⟩ := hgone.alloc (w' := w) (l := .virt) (row := .arr i.size []) hF.head hF.own (fun b hb => by cases hb) (fun _ _ => rfl) (Same.refl w) (.inl ⟨Ids.set_self .., rfl⟩)
                    refine ⟨_, S, .sliceV s base (Ids.set_self ..), ?_, q2, set_outside⟩
                    rw [← updR_cons] at q1
                    simpa using q1
                  · obtain ⟨b, ofs, rfl, news, n1, n2, n3⟩ := hsrc hx0
                    have hlpos : 0 < xs.length := List.length_pos_iff.2 hx0
                    have hn2 : ∀ (j : Nat) u, news[j]? = some u → w.cell? ((⟨b, ofs, none⟩ : Addr).add j) = some u := fun j u hu => by rw [Addr.add_lit]; exact n2 j u hu
                    have hcapge := grownCap_ge w xs.length 0 el
                    have hcm : grownCap w xs.length 0 el ≤ maxLen := grownCap_le_maxLen w _ 0 el (by simp only [maxLen]; omega)
                    have hrun : (Builtin.append_ #[t, t] o.type #[.slice base 0 0, .slice (some ⟨b, ofs, none⟩) xs.length capx]).run P w =
                        .ok (.slice (some ⟨w.heap.size, 0, none⟩) xs.length (grownCap w xs.length 0 el)) (w.drew.alloc (.cells (news.toArray ++ Builtin.zeroCells z.cells (grownCap w xs.length 0 el - xs.length)) el)) := by
                      cases base with
                      | none => exact run_append_nil (P := P) w t o.type el i z ht hi hz _ _ _ news n1 hn2 hlpos (by omega) (by simp only [Nat.zero_add] at hbytes; omega)
                      | some b0 =>
                        have := run_append_grow (P := P) w t o.type el i z ht hi hz b0 0 0 [] (by simp) (by simp) ⟨b, ofs, none⟩ xs.length capx news n1 hn2 (by omega) (by omega) (growslice_fits (by omega) (by simpa using hbytes))
                        simpa using this
                    have hsize : (news.toArray ++ Builtin.zeroCells z.cells (grownCap w xs.length 0 el - xs.length)).size = grownCap w xs.length 0 el * i.size := by
                      rw [Array.size_append, zeroCells_eq, hzs]
                      simp only [List.size_toArray, n1]
                      rw [← Nat.add_mul]; congr 1; omega
                    obtain ⟨σ', S', p1, p2, p3, p4⟩ := new_arr (t := el) (rd := []) hgone hF (fun b hb => heap_alloc_old w.drew _ b hb) ((Same.drew w).trans (Same.alloc ..)) (heap_alloc_new w.drew _) hsize hcapge hcm h0 hxe (fun j y hy => by
                      have hj : j < news.length := by rw [n1, ← hxf]; exact (List.getElem?_eq_some_iff.1 hy).1
                      refine ⟨news[j], ?_, n3 j _ y (List.getElem?_eq_getElem hj) hy⟩
                      rw [Array.getElem?_append_left (by simpa using hj)]
                      simp [hj])
                    refine ⟨_, _, hexec hrun, σ', S', by simpa using p1, ?_, p3, p4⟩
                    rw [updR_cons]
                    simpa using p2
                · -- a block
                  have hvd' : ∃ ad cap, vd = .slice (some ad) len cap ∧ es.length ≤ cap ∧ cap = c' ∧ (cap ≠ 0 → ad = ⟨b', 0, none⟩) := by
                    cases hvd with
                    | imm hvd => cases hvd
                    | slice id off len cap b sz n' c ad hσ q1 q2 q3 q4 =>
                      have q := hk.symm.trans hσ
                      simp only [Option.some.injEq, Loc.row.injEq] at q
                      obtain ⟨rfl, rfl, rfl, rfl⟩ := q
                      exact ⟨ad, cap, rfl, by omega, by omega, by simpa using q4⟩
                    | sliceV id b hσ => rw [hk] at hσ; cases hσ
                  obtain ⟨bd, cap, rfl, hcap1, hcap2, hbd⟩ := hvd'
                  subst hfull
                  have hef := flat_length hel
                  have helx : ∀ e ∈ es ++ xs, Elem i.size e := fun e hm => by
                    rcases List.mem_append.1 hm with hm | hm
                    · exact hel e hm
                    · exact hxe e hm
                  by_cases hin : es.length + xs.length ≤ cap
                  · -- in its place
                    have move : ∀ {cur' : Array Value} {w' : World}, w'.heap[b']? = some (.cells cur' te (0, 0)) → c' * i.size ≤ cur'.size → (∀ b, b ≠ b' → w'.heap[b]? = w.heap[b]?) → Same w w' →
                        (∀ (j : Nat) y, (flat (es ++ xs))[j]? = some y → ∃ v, cur'[j]? = some v ∧ RelI S w v y) →
                        Step Own σ S w R s ⟨.slice s 0 (es.length + xs.length), [(s, some (.arr i.size (es ++ xs))), (id, none)], id :: ids⟩ (.slice (some bd) (es.length + xs.length) cap) w' := by
                      intro cur' w' hh' hs' hw' hS' hcells
                      obtain ⟨q1, q2⟩ := hR.move (w' := w') (l := .row b' i.size (es ++ xs).length c') (row := .arr i.size (es ++ xs)) hF.head hr ⟨_, hk, rfl⟩ rfl hw' hS' (fun hkeep =>
                        .inr ⟨b', c', cur', te, Ids.set_self .., hh', hs', by simp; omega, hmax, h0, helx, fun j y hy => by
                          obtain ⟨v, h1, h2⟩ := hcells j y hy
                          exact ⟨v, h1, h2.mono (fun _ h => h) hkeep⟩⟩)
                      refine ⟨_, S, ?_, q1, q2, set_outside⟩
                      exact .slice s 0 _ cap b' i.size (es ++ xs).length c' bd (Ids.set_self ..) (by simp) (by simp; omega) (by omega) (by simpa using hbd)
                    by_cases hx0 : xs = []
                    · subst hx0
                      have hrun := run_append_zero (P := P) (w := w) (ty := o.type) ht hi (base := some bd) (ad := axd) (n := es.length) (c := cap) (cap := capx) hcap1
                      refine ⟨_, _, hexec hrun, ?_⟩
                      have := move (cur' := cur) (w' := w) hh hs (fun _ _ => rfl) (Same.refl w) (fun j y hy => by simp only [List.append_nil] at hy; exact hf j y hy)
                      simpa using this
                    · obtain ⟨b, ofs, rfl, news, n1, n2, n3⟩ := hsrc hx0
                      have hlpos : 0 < xs.length := List.length_pos_iff.2 hx0
                      have hn2 : ∀ (j : Nat) u, news[j]? = some u → w.cell? ((⟨b, ofs, none⟩ : Addr).add j) = some u := fun j u hu => by rw [Addr.add_lit]; exact n2 j u hu
                      have hbd' := hbd (by omega)
                      subst hbd'
                      have hfit : es.length * i.size + news.length ≤ cur.size := by
                        refine Nat.le_trans ?_ hs
                        rw [n1, ← Nat.add_mul]; exact Nat.mul_le_mul_right _ (by omega)
                      have hrun := run_append_in (P := P) (w := w) t o.type el te i ht hi b' es.length cap cur hh ⟨b, ofs, none⟩ xs.length capx news n1 hn2 (hxone n1 n3) hin hfit
                      refine ⟨_, _, hexec hrun, move (setRow_heap w b' cur _ te _ hh) (by simp; omega) (fun b hb => setRow_other w b' b _ hb) (Same.setRow ..) (fun j y hy => ?_)⟩
                      simp only [List.getElem?_toArray]
                      rw [getElem?_spliced _ _ _ _ (by simpa using hfit)]
                      rw [flat_append] at hy
                      by_cases hj1 : j < es.length * i.size
                      · rw [if_pos hj1]
                        rw [List.getElem?_append_left (by omega)] at hy
                        obtain ⟨v, h1, h2⟩ := hf j y hy
                        exact ⟨v, by rw [Array.getElem?_toList]; exact h1, h2⟩
                      · rw [if_neg hj1]
                        rw [List.getElem?_append_right (by omega), hef] at hy
                        have hj2 : j - es.length * i.size < news.length := by rw [n1, ← hxf]; exact (List.getElem?_eq_some_iff.1 hy).1
                        rw [if_pos (by omega)]
                        exact ⟨_, List.getElem?_eq_getElem hj2, n3 _ _ y (List.getElem?_eq_getElem hj2) hy⟩
                  · -- a new block
                    have hx0 : xs ≠ [] := by rintro rfl; simp at hin; omega
                    obtain ⟨b, ofs, rfl, news, n1, n2, n3⟩ := hsrc hx0
                    have hn2 : ∀ (j : Nat) u, news[j]? = some u → w.cell? ((⟨b, ofs, none⟩ : Addr).add j) = some u := fun j u hu => by rw [Addr.add_lit]; exact n2 j u hu
                    have hcapge := grownCap_ge w (es.length + xs.length) cap el
                    have hcm : grownCap w (es.length + xs.length) cap el ≤ maxLen := grownCap_le_maxLen w _ cap el (by simp only [maxLen]; omega)
                    have hfitold : es.length * i.size ≤ cur.size := Nat.le_trans (Nat.mul_le_mul_right _ (by omega)) hs
                    have hrun := run_append_grow (P := P) w t o.type el i z ht hi hz bd es.length cap (cur.toList.take (es.length * i.size)) (by simp; omega) (fun j v hv => by
                        have hj : j < es.length * i.size := by have := (List.getElem?_eq_some_iff.1 hv).1; simp at this; omega
                        have hpos : es.length ≠ 0 := by intro h0; rw [h0] at hj; omega
                        rw [hbd (by omega), Addr.add_lit, Nat.zero_add, cell_of_row w b' _ cur te (0, 0) hh]
                        rw [List.getElem?_take, if_pos hj, Array.getElem?_toList] at hv
                        exact hv) ⟨b, ofs, none⟩ xs.length capx news n1 hn2 (by omega) (by omega) (growslice_fits (by omega) hbytes)
                    have hgone : RowsOk Own σ S w (updR [(id, none)] R) := hR.restrict fun j r hj => by
                      simp only [updR] at hj
                      split at hj
                      · cases hj
                      · exact hj
                    have hsize : ((cur.toList.take (es.length * i.size)).toArray ++ news.toArray ++ Builtin.zeroCells z.cells (grownCap w (es.length + xs.length) cap el - (es.length + xs.length))).size = grownCap w (es.length + xs.length) cap el * i.size := by
                      rw [Array.size_append, Array.size_append, zeroCells_eq, hzs]
                      simp only [List.size_toArray, n1, List.length_take, Array.length_toList]
                      rw [Nat.min_eq_left hfitold, ← Nat.add_mul, ← Nat.add_mul]; congr 1; omega
                    obtain ⟨σ', S', p1, p2, p3, p4⟩ := new_arr (t := el) (es := es ++ xs) (rd := []) hgone hF (fun b hb => heap_alloc_old w.drew _ b hb) ((Same.drew w).trans (Same.alloc ..)) (heap_alloc_new w.drew _) hsize (by simpa using hcapge) hcm h0 helx (fun j y hy => by
                      rw [flat_append] at hy
                      have htl : ((cur.toList.take (es.length * i.size)).toArray).size = es.length * i.size := by simp; omega
                      by_cases hj1 : j < es.length * i.size
                      · rw [List.getElem?_append_left (by omega)] at hy
                        obtain ⟨v, h1, h2⟩ := hf j y hy
                        refine ⟨v, ?_, h2⟩
                        rw [Array.getElem?_append_left (by simp; omega), Array.getElem?_append_left (by omega), List.getElem?_toArray, List.getElem?_take, if_pos hj1, Array.getElem?_toList]
                        exact h1
                      · rw [List.getElem?_append_right (by omega), hef] at hy
                        have hj2 : j - es.length * i.size < news.length := by rw [n1, ← hxf]; exact (List.getElem?_eq_some_iff.1 hy).1
                        refine ⟨_, ?_, n3 _ _ y (List.getElem?_eq_getElem hj2) hy⟩
                        rw [Array.getElem?_append_left (by simp; omega), Array.getElem?_append_right (by omega), htl, List.getElem?_toArray]
                        exact List.getElem?_eq_getElem hj2)
                    refine ⟨_, _, hexec hrun, σ', S', by simpa using p1, ?_, p3, p4⟩
                    rw [updR_cons]
                    exact p2
              · cases h
            · split at h
              · rename_i hnf hle
                simp only [Option.some.injEq] at h; subst h
                rcases hR.ok id _ hr with ⟨hk, rfl⟩ | ⟨b', c', cur, te, hk, hh, hs, hn', hmax, hp', hel, hf⟩
                · exact absurd (by simp at hle; simpa using hle.1) hnf
                · have hvd' : ∃ ad cap, vd = .slice (some ad) len cap ∧ es.length ≤ cap ∧ cap = c' ∧ (cap ≠ 0 → ad = ⟨b', 0, none⟩) := by
                    cases hvd with
                    | imm hvd => cases hvd
                    | slice id off len cap b sz n' c ad hσ q1 q2 q3 q4 =>
                      have q := hk.symm.trans hσ
                      simp only [Option.some.injEq, Loc.row.injEq] at q
                      obtain ⟨rfl, rfl, rfl, rfl⟩ := q
                      exact ⟨ad, cap, rfl, by omega, by omega, by simpa using q4⟩
                    | sliceV id b hσ => rw [hk] at hσ; cases hσ
                  obtain ⟨bd, cap, rfl, hcap1, hcap2, hbd⟩ := hvd'
                  have hef := flat_length hel
                  have hbd' := hbd (by omega)
                  subst hbd'
                  have hlen' : (es.take len ++ xs ++ es.drop (len + xs.length)).length = es.length := by simp; omega
                  have hrelv : RelV σ S w (.slice (some ⟨b', 0, none⟩) (len + xs.length) cap) (.slice id 0 (len + xs.length)) :=
                    .slice id 0 _ cap b' i.size es.length c' _ hk (by omega) (by omega) (by omega) (by simp)
                  have helx : ∀ e ∈ es.take len ++ xs ++ es.drop (len + xs.length), Elem i.size e := fun e hm => by
                    simp only [List.mem_append] at hm
                    rcases hm with (hm | hm) | hm
                    · exact hel e (List.mem_of_mem_take hm)
                    · exact hxe e hm
                    · exact hel e (List.mem_of_mem_drop hm)
                  have hflx : flat (es.take len ++ xs ++ es.drop (len + xs.length)) = (flat es).take (len * i.size) ++ flat xs ++ (flat es).drop (len * i.size + (flat xs).length) := by
                    rw [flat_append, flat_append, flat_take hel, flat_drop hel, hxf, Nat.add_mul]
                  have hffit : len * i.size + (flat xs).length ≤ (flat es).length := by
                    rw [hxf, hef, ← Nat.add_mul]; exact Nat.mul_le_mul_right _ hle
                  have turn : ∀ {cur' : Array Value} {w' : World}, w'.heap[b']? = some (.cells cur' te (0, 0)) → c' * i.size ≤ cur'.size → (∀ b, b ≠ b' → w'.heap[b]? = w.heap[b]?) → Same w w' →
                      (∀ (j : Nat) y, (flat (es.take len ++ xs ++ es.drop (len + xs.length)))[j]? = some y → ∃ v, cur'[j]? = some v ∧ RelI S w v y) →
                      Step Own σ S w R s ⟨.slice id 0 (len + xs.length), [(id, some (.arr i.size (es.take len ++ xs ++ es.drop (len + xs.length))))], id :: ids⟩ (.slice (some ⟨b', 0, none⟩) (len + xs.length) cap) w' := by
                    intro cur' w' hh' hs' hw' hS' hcells
                    obtain ⟨q1, q2⟩ := hR.turn (w' := w') (row := .arr i.size (es.take len ++ xs ++ es.drop (len + xs.length))) hr ⟨_, hk, rfl⟩ hw' hS' (fun hkeep =>
                      .inr ⟨b', c', cur', te, by rw [hlen']; exact hk, hh', hs', by omega, hmax, h0, helx, fun j y hy => by
                        obtain ⟨v, h1, h2⟩ := hcells j y hy
                        exact ⟨v, h1, h2.mono (fun _ h => h) hkeep⟩⟩)
                    exact ⟨σ, S, hrelv.ext q2, q1, q2, fun _ _ => rfl⟩
                  by_cases hx0 : xs = []
                  · subst hx0
                    have hrun := run_append_zero (P := P) (w := w) (ty := o.type) ht hi (base := some ⟨b', 0, none⟩) (ad := axd) (n := len) (c := cap) (cap := capx) (by omega)
                    refine ⟨_, _, hexec hrun, ?_⟩
                    have := turn (cur' := cur) (w' := w) hh hs (fun _ _ => rfl) (Same.refl w) (fun j y hy => by
                      simp only [List.length_nil, Nat.add_zero, List.append_nil, List.take_append_drop] at hy
                      exact hf j y hy)
                    simpa using this
                  · obtain ⟨b, ofs, rfl, news, n1, n2, n3⟩ := hsrc hx0
                    have hn2 : ∀ (j : Nat) u, news[j]? = some u → w.cell? ((⟨b, ofs, none⟩ : Addr).add j) = some u := fun j u hu => by rw [Addr.add_lit]; exact n2 j u hu
                    have hfit : len * i.size + news.length ≤ cur.size := by
                      refine Nat.le_trans ?_ hs
                      rw [n1, ← Nat.add_mul]; exact Nat.mul_le_mul_right _ (by omega)
                    have hrun := run_append_in (P := P) (w := w) t o.type el te i ht hi b' len cap cur hh ⟨b, ofs, none⟩ xs.length capx news n1 hn2 (hxone n1 n3) (by omega) hfit
                    refine ⟨_, _, hexec hrun, turn (setRow_heap w b' cur _ te _ hh) (by simp; omega) (fun b hb => setRow_other w b' b _ hb) (Same.setRow ..) (fun j y hy => ?_)⟩
                    simp only [List.getElem?_toArray]
                    rw [getElem?_spliced _ _ _ _ (by simpa using hfit)]
                    rw [hflx, getElem?_spliced _ _ _ _ hffit] at hy
                    have hnl : news.length = (flat xs).length := by omega
                    by_cases hj1 : j < len * i.size
                    · rw [if_pos hj1] at hy ⊢
                      obtain ⟨v, h1, h2⟩ := hf j y hy
                      exact ⟨v, by rw [Array.getElem?_toList]; exact h1, h2⟩
                    · rw [if_neg hj1] at hy ⊢
                      by_cases hj2 : j < len * i.size + (flat xs).length
                      · rw [if_pos hj2] at hy
                        rw [if_pos (by omega)]
                        have hj3 : j - len * i.size < news.length := by omega
                        exact ⟨_, List.getElem?_eq_getElem hj3, n3 _ _ y (List.getElem?_eq_getElem hj3) hy⟩
                      · rw [if_neg hj2] at hy
                        rw [if_neg (by omega)]
                        obtain ⟨v, h1, h2⟩ := hf j y hy
                        exact ⟨v, by rw [Array.getElem?_toList]; exact h1, h2⟩
              · cases h
          · cases h
        · cases h
      · cases h
    · cases h
  · cases h

end
end Go.Abs
