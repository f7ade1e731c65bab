/-
  Steps of operations, fourth part: rows that come, and rows that are written.
-/
import Derived.Test.YtfokmdhmaabegaaOps3
set_option linter.all false
namespace Go.Abs

theorem Same.alloc (w : World) (o : Obj) : Same w (w.alloc o) := ⟨rfl, rfl, rfl, by simp⟩
theorem Same.drew (w : World) : Same w w.drew := ⟨rfl, rfl, rfl, Nat.le_refl _⟩
theorem Same.setRow (w : World) (g : Nat) (cs : Array Value) : Same w (w.setRow g cs) := ⟨rfl, rfl, rfl, by simp [World.setRow]⟩

theorem updR_cons (p : Nat × Option Row) (wr : List (Nat × Option Row)) (R : Nat → Option Row) : updR (p :: wr) R = updR [p] (updR wr R) := by
  obtain ⟨i, r⟩ := p; rfl

theorem getElem?_spliced {α : Type} (l vs : List α) (o i : Nat) (h : o + vs.length ≤ l.length) :
    (l.take o ++ vs ++ l.drop (o + vs.length))[i]? = if i < o then l[i]? else if i < o + vs.length then vs[i - o]? else l[i]? := by
  have hto : (l.take o).length = o := by simp; omega
  by_cases h1 : i < o
  · rw [if_pos h1, List.getElem?_append_left (by simp [hto]; omega), List.getElem?_append_left (by omega), List.getElem?_take, if_pos h1]
  · rw [if_neg h1]
    by_cases h2 : i < o + vs.length
    · rw [if_pos h2, List.getElem?_append_left (by simp [hto]; omega), List.getElem?_append_right (by omega), hto]
    · rw [if_neg h2, List.getElem?_append_right (by simp [hto]; omega), List.getElem?_drop]
      congr 1
      simp [hto]; omega

theorem flat_set {sz : Nat} {es : List AV} (h : ∀ e ∈ es, Elem sz e) {idx : Nat} (hi : idx < es.length) {e' : AV} (he : e'.cells.length = sz) (i : Nat) :
    (flat (es.set idx e'))[i]? = if i < idx * sz then (flat es)[i]? else if i < idx * sz + sz then e'.cells[i - idx * sz]? else (flat es)[i]? := by
  have e1 : flat (es.set idx e') = (flat es).take (idx * sz) ++ e'.cells ++ (flat es).drop (idx * sz + e'.cells.length) := by
    rw [List.set_eq_take_append_cons_drop, if_pos hi, flat_append, flat_take h]
    simp only [List.append_assoc]
    congr 1
    have : flat (e' :: es.drop (idx + 1)) = e'.cells ++ flat (es.drop (idx + 1)) := by simp [flat]
    rw [this, flat_drop h, he]
    congr 2
    rw [Nat.add_mul]; omega
  have hl : idx * sz + e'.cells.length ≤ (flat es).length := by
    rw [flat_length h, he]
    have : idx * sz + 1 * sz ≤ es.length * sz := by rw [← Nat.add_mul]; exact Nat.mul_le_mul_right _ (by omega)
    omega
  rw [e1, getElem?_spliced _ _ _ _ hl, he]

section
variable {P : Program} {Own : Nat → Prop} {σ : Ids} {S : Nat → Prop} {w : World} {R : Nat → Option Row} {s : Nat} {T : Nat → Option AV} {a : Act} {o : Oper} {e : Eff}

/-- what is asked of the numbers of a step -/
structure Free (Own : Nat → Prop) (σ : Ids) (w : World) (s : Nat) : Prop where
  ids : ∀ id, s ≤ id → id < s + siteWidth → σ id = none
  own : ∀ b, w.heap.size ≤ b → Own b

theorem Free.head (h : Free Own σ w s) : σ s = none := h.ids s (Nat.le_refl _) (by simp [siteWidth])

theorem set_outside {l : Loc} : ∀ id, id < s ∨ s + siteWidth ≤ id → (σ.set s l) id = σ id := by
  intro id h
  refine Ids.set_other ?_
  rintro rfl
  have : siteWidth = 32 := rfl
  omega

/-- a new box -/
theorem new_box {u : Value} {y : AV} {t : TypeId} (hR : RowsOk Own σ S w R) (hF : Free Own σ w s) (hu : RelV σ S w u y) (hsc : ∀ c ∈ y.cells, c.scalar = true) :
    Step Own σ S w R s ⟨.ptr s 0 0, [(s, some (.box y.cells))], []⟩ (.pointer (some ⟨w.heap.size, 0, none⟩)) (w.alloc (.cells u.cells t)) := by
  obtain ⟨h1, h2⟩ := hu.cells hsc
  have hle : σ.le (σ.set s (.row w.heap.size y.cells.length 1 1)) := Ids.le_set hF.head
  obtain ⟨q1, q2⟩ := hR.alloc (w' := w.alloc (.cells u.cells t)) (l := .row w.heap.size y.cells.length 1 1) (row := .box y.cells) hF.head hF.own (fun b hb => by cases hb; rfl)
    (fun b hb => heap_alloc_old w _ b hb) (Same.alloc w _)
    ⟨w.heap.size, u.cells, t, Ids.set_self .., heap_alloc_new w _, h1, hsc, fun i x hx => by
      have hlt : i < u.cells.size := by have := (List.getElem?_eq_some_iff.1 hx).1; omega
      exact ⟨u.cells[i], Array.getElem?_eq_getElem hlt, (h2 i _ x (Array.getElem?_eq_getElem hlt) hx).mono hle (fun _ h => h) fun b hb => heap_alloc_old w _ b (hR.old b hb)⟩⟩
  refine ⟨_, S, ?_, q1, q2, set_outside⟩
  have := RelV.ptr (S := S) (w := w.alloc (.cells u.cells t)) s 0 0 w.heap.size y.cells.length 1 1 (Ids.set_self σ s _) (by omega)
  simpa using this

/-- a new row -/
theorem new_arr {w' : World} {cs : Array Value} {t : TypeId} {sz c : Nat} {es : List AV} {rd : List Nat} (hR : RowsOk Own σ S w R) (hF : Free Own σ w s)
    (hw : ∀ b, b < w.heap.size → w'.heap[b]? = w.heap[b]?) (hS : Same w w') (hb : w'.heap[w.heap.size]? = some (.cells cs t (0, 0))) (hs : cs.size = c * sz) (hl : es.length ≤ c) (hc : c ≤ maxLen)
    (h0 : 0 < sz) (he : ∀ e ∈ es, Elem sz e) (hf : ∀ (i : Nat) x, (flat es)[i]? = some x → ∃ v, cs[i]? = some v ∧ RelI S w v x) :
    Step Own σ S w R s ⟨.slice s 0 es.length, [(s, some (.arr sz es))], rd⟩ (.slice (some ⟨w.heap.size, 0, none⟩) es.length c) w' := by
  obtain ⟨q1, q2⟩ := hR.alloc (w' := w') (l := .row w.heap.size sz es.length c) (row := .arr sz es) hF.head hF.own (fun b hb => by cases hb; rfl) hw hS
    (.inr ⟨w.heap.size, c, cs, t, Ids.set_self .., hb, Nat.le_of_eq hs.symm, hl, hc, h0, he, fun i x hx => by
      obtain ⟨v, h1, h2⟩ := hf i x hx
      exact ⟨v, h1, h2.mono (fun _ h => h) fun b hb => hw b (hR.old b hb)⟩⟩)
  refine ⟨_, S, ?_, q1, q2, set_outside⟩
  exact .slice s 0 es.length c w.heap.size sz es.length c _ (Ids.set_self ..) (by omega) (by omega) (by omega) (fun _ => by simp)

/-- steps behind a lock -/
theorem Step.behind {ids : List Nat} {p : Nat × Option Row} {av : AV} {rd rd' : List Nat} {v : Value} {w' : World} (hR : RowsOk Own σ S w R)
    (h : Step Own σ (Locked σ S R ids) w (updR (gone ids) R) s ⟨av, [p], rd⟩ v w') : Step Own σ S w R s ⟨av, p :: gone ids, rd'⟩ v w' := by
  obtain ⟨σ', S', h1, h2, h3, h4⟩ := h
  refine ⟨σ', S', h1, ?_, (hR.lock ids).2.trans h3, h4⟩
  rw [updR_cons]; exact h2

theorem alloc_sound {t : TypeId} {z : AV} (hR : RowsOk Own σ S w R) (hF : Free Own σ w s) (ho : o.op = .alloc t) (hz : zeroOf P t = some z) (call : CallF)
    (h : evalOp call s (getO T) R (.alloc z.cells) = some e) : ∃ v w', OpRuns P a o w v w' ∧ Step Own σ S w R s e v w' := by
  unfold zeroOf at hz
  split at hz
  · rename_i i hi
    split at hz
    · rename_i zv hzv
      split at hz
      · simp only [evalOp] at h
        split at h
        · rename_i hsc
          simp at h; subst h
          exact ⟨_, _, .inl (by simp [execOp, ho, Instr.alloc, zeroValue, typeInfo, hi, hzv, newVar, newRow]; rfl), new_box hR hF (.imm (ofVal_rel hz)) (by simpa using hsc)⟩
        · cases h
      · cases hz
    · cases hz
  · cases hz

theorem box_sound {t : TypeId} {t1 : Option TypeId} {x : Operand} {ax : AOpd} (hT : TmpsOk σ S w T a) (hR : RowsOk Own σ S w R) (hF : Free Own σ w s) (ho : o.op = .box t x)
    (hx : opd P t1 x = some ax) (call : CallF) (h : evalOp call s (getO T) R (.box ax) = some e) : ∃ v w', OpRuns P a o w v w' ∧ Step Own σ S w R s e v w' := by
  simp only [evalOp] at h
  split at h
  · rename_i y hg
    split at h
    · rename_i hsc
      simp at h; subst h
      exact ⟨_, _, .inl (by simp [execOp, ho, Instr.box, newVar, newRow]; rfl), new_box hR hF (opd_sound hT hx hg) (by simpa using hsc)⟩
    · cases h
  · cases h

theorem run_storeAt {t : TypeId} {n b k : Nat} {cur : Array Value} {te : TypeId} {v : Value} (hn : szOf P t = some n) (hb : w.heap[b]? = some (.cells cur te (0, 0))) (hv : v.cells.size = n)
    (hl : k + n ≤ cur.size) (h1 : ∀ u ∈ v.cells, u.oneCell' = true) :
    (Instr.storeAt t (.pointer (some ⟨b, k, none⟩)) v).run P w = .ok () (w.setRow b (cur.toList.take k ++ v.cells.toList ++ cur.toList.drop (k + v.cells.toList.length)).toArray) := by
  simp only [szOf, Option.map_eq_some_iff] at hn
  obtain ⟨i, hi, rfl⟩ := hn
  have := run_storeCells_at P b k te v.cells.toList 0 cur w hb (by simp; omega) (fun u hu => h1 u (by simpa using hu))
  simp only [Nat.add_zero] at this
  simp only [Instr.storeAt, Instr.sureAddr, pure_bind, storeVar]
  simp [sizeOf, typeInfo, hi, hv, this]

theorem cells_oneCell {v : Value} {cs : List AV} (hl : v.cells.size = cs.length) (hr : ∀ (i : Nat) x y, v.cells[i]? = some x → cs[i]? = some y → RelV σ S w x y) (hsc : ∀ c ∈ cs, c.scalar = true) :
    ∀ u ∈ v.cells, u.oneCell' = true := by
  intro u hu
  obtain ⟨i, hi, rfl⟩ := Array.getElem_of_mem hu
  have hi' : i < cs.length := by omega
  exact (hr i _ _ (Array.getElem?_eq_getElem hi) (List.getElem?_eq_getElem hi')).oneCell (hsc _ (List.getElem_mem hi'))

theorem store_sound {t : TypeId} {n : Nat} {t1 t2 : Option TypeId} {x y : Operand} {ax ay : AOpd} (hT : TmpsOk σ S w T a) (hR : RowsOk Own σ S w R) (ho : o.op = .store t x y)
    (hn : szOf P t = some n) (hx : opd P t1 x = some ax) (hy : opd P t2 y = some ay) (h : evStore (getO T) R n ax ay = some e) : ∃ v w', OpRuns P a o w v w' ∧ Step Own σ S w R s e v w' := by
  have runs : ∀ {w' : World}, (Instr.storeAt t (a.eval x) (a.eval y)).run P w = .ok () w' → OpRuns P a o w undef w' := fun h => .inr ⟨by simp [execOp, ho, h], rfl⟩
  have hund : ∀ {σ' : Ids} {S' : Nat → Prop} {w' : World}, RelV σ' S' w' undef (.tuple []) := .tuple #[] [] rfl (by simp)
  unfold evStore at h
  split at h
  · rename_i id idx off v hgx hgy
    have hpx := opd_sound hT hx hgx
    have hvy := opd_sound hT hy hgy
    generalize hax : a.eval x = va at hpx
    generalize hay : a.eval y = vy at hvy
    split at h
    · rename_i hc
      obtain ⟨hlen, hsc⟩ := hc
      have hsc' : ∀ c ∈ v.cells, c.scalar = true := by simpa using hsc
      obtain ⟨c1, c2⟩ := hvy.cells hsc'
      have hone := cells_oneCell c1 c2 hsc'
      split at h
      · rename_i sz es hr
        split at h
        · rename_i el hel
          split at h
          · rename_i hoff
            split at h
            · rename_i xs ids hfz
              split at h
              · rename_i el' hre
                split at h
                · cases h
                · rename_i hnid
                  simp only [Option.some.injEq] at h; subst h
                  have hnid' : id ∉ ids := by simpa using hnid
                  cases hpx with
                  | imm hv => cases hv
                  | ptr id idx off b sz' n' c hσ h1' =>
                    rcases hR.ok id _ hr with ⟨hk, _⟩ | ⟨b', c', cur, te, hk, hh, hs, hn', hmax, hp', hels, hf⟩
                    · rw [hk] at hσ; cases hσ
                    · have q := hk.symm.trans hσ
                      simp only [Option.some.injEq, Loc.row.injEq] at q
                      obtain ⟨rfl, rfl, rfl, rfl⟩ := q
                      have hidx : idx < es.length := (List.getElem?_eq_some_iff.1 hel).1
                      have hee := hels el (List.mem_of_getElem? hel)
                      obtain ⟨f1, f2⟩ := frzL_spec hfz
                      have hfit : idx * sz + off + n ≤ cur.size := by
                        have : idx * sz + 1 * sz ≤ c' * sz := by rw [← Nat.add_mul]; exact Nat.mul_le_mul_right _ (by omega)
                        have := hee.1
                        omega
                      have hrun := run_storeAt (P := P) (w := w) (v := vy) hn hh (by omega) hfit hone
                      refine ⟨undef, _, runs (by rw [hax, hay]; exact hrun), ?_⟩
                      -- the new element
                      have hxsc : ∀ c ∈ xs, c.scalar = true := by
                        intro c hc
                        obtain ⟨j, hj, rfl⟩ := List.getElem_of_mem hc
                        have hj' : j < v.cells.length := by omega
                        obtain ⟨ids', hi, _⟩ := f2 j _ _ (List.getElem?_eq_getElem hj') (List.getElem?_eq_getElem hj)
                        exact frz_scalar hi (hsc' _ (List.getElem_mem hj'))
                      have hcel' : el'.cells = splice el.cells off n xs := by
                        unfold reElem at hre
                        split at hre
                        · simp at hre; subst hre; rfl
                        · split at hre
                          · rename_i c hcc
                            simp only [Option.some.injEq] at hre; subst hre
                            rw [hcc]
                            refine AV.scalar_cells ?_
                            have hmem : c ∈ splice el.cells off n xs := by rw [hcc]; simp
                            unfold splice at hmem
                            simp only [List.mem_append] at hmem
                            rcases hmem with (hm | hm) | hm
                            · exact hee.2 _ (List.mem_of_mem_take hm)
                            · exact hxsc _ hm
                            · exact hee.2 _ (List.mem_of_mem_drop hm)
                          · cases hre
                      have hxl : xs.length = n := by omega
                      have hspl : splice el.cells off n xs = el.cells.take off ++ xs ++ el.cells.drop (off + xs.length) := by rw [hxl]; rfl
                      have hel'len : el'.cells.length = sz := by
                        rw [hcel', hspl]
                        have := hee.1
                        simp; omega
                      have hel'e : Elem sz el' := ⟨hel'len, by
                        intro c hc
                        rw [hcel'] at hc
                        unfold splice at hc
                        simp only [List.mem_append] at hc
                        rcases hc with (hm | hm) | hm
                        · exact hee.2 _ (List.mem_of_mem_take hm)
                        · exact hxsc _ hm
                        · exact hee.2 _ (List.mem_of_mem_drop hm)⟩
                      -- behind the lock
                      have hL := hR.lock ids
                      have hr' : updR (gone ids) R id = some (.arr sz es) := by rw [updR_gone, if_neg hnid']; exact hr
                      obtain ⟨t1, t2⟩ := hL.1.turn (w' := w.setRow b' (cur.toList.take (idx * sz + off) ++ vy.cells.toList ++ cur.toList.drop (idx * sz + off + vy.cells.toList.length)).toArray)
                        (row := .arr sz (es.set idx el')) hr' ⟨_, hk, rfl⟩ (fun b hb => setRow_other w b' b _ hb) (Same.setRow ..) (fun hkeep => by
                          refine .inr ⟨b', c', _, te, by simpa using hk, setRow_heap w b' cur _ te _ hh, ?_, by simpa using hn', hmax, hp', ?_, fun i z hz => ?_⟩
                          · simp; omega
                          · intro y hy
                            rcases List.mem_or_eq_of_mem_set hy with hy | rfl
                            · exact hels y hy
                            · exact hel'e
                          · rw [flat_set hels hidx hel'len] at hz
                            have hcl : idx * sz + off + vy.cells.toList.length ≤ cur.toList.length := by simp; omega
                            simp only [List.getElem?_toArray]
                            rw [getElem?_spliced _ _ _ _ hcl]
                            have hvl : vy.cells.toList.length = n := by simp; omega
                            have old : ∀ {z : AV}, (flat es)[i]? = some z → ∃ v, cur.toList[i]? = some v ∧ RelI (Locked σ S R ids) (w.setRow b' (cur.toList.take (idx * sz + off) ++ vy.cells.toList ++ cur.toList.drop (idx * sz + off + vy.cells.toList.length)).toArray) v z := by
                              intro z hz
                              obtain ⟨v', hv', hrel⟩ := hf i z hz
                              exact ⟨v', by rw [Array.getElem?_toList]; exact hv', (hrel.mono (S' := Locked σ S R ids) (fun _ h => .inl h) (fun _ _ => rfl)).mono (fun _ h => h) hkeep⟩
                            by_cases hi1 : i < idx * sz
                            · rw [if_pos hi1] at hz
                              rw [if_pos (by omega)]
                              exact old hz
                            · rw [if_neg hi1] at hz
                              by_cases hi2 : i < idx * sz + sz
                              · rw [if_pos hi2] at hz
                                rw [hcel', hspl, getElem?_spliced _ _ _ _ (by omega)] at hz
                                have hget := flat_get hels hel (j := i - idx * sz) (by omega)
                                rw [show idx * sz + (i - idx * sz) = i by omega] at hget
                                by_cases hi3 : i - idx * sz < off
                                · rw [if_pos hi3] at hz
                                  rw [if_pos (by omega)]
                                  exact old (by rw [hget]; exact hz)
                                · rw [if_neg hi3] at hz
                                  by_cases hi4 : i - idx * sz < off + xs.length
                                  · rw [if_pos hi4] at hz
                                    rw [if_neg (by omega), if_pos (by omega)]
                                    have hj : i - idx * sz - off < v.cells.length := by omega
                                    obtain ⟨ids', hi', hm⟩ := f2 _ _ _ (List.getElem?_eq_getElem hj) hz
                                    have hj' : i - idx * sz - off < vy.cells.size := by omega
                                    refine ⟨vy.cells[i - idx * sz - off], ?_, ?_⟩
                                    · rw [show i - (idx * sz + off) = i - idx * sz - off by omega, Array.getElem?_toList]
                                      exact Array.getElem?_eq_getElem hj'
                                    · have := frz_sound hR _ hi' (c2 _ _ _ (Array.getElem?_eq_getElem hj') (List.getElem?_eq_getElem hj))
                                      exact (this.lockMono hm).mono (fun _ h => h) hkeep
                                  · rw [if_neg hi4] at hz
                                    rw [if_neg (by omega), if_neg (by omega)]
                                    exact old (by rw [hget]; exact hz)
                              · rw [if_neg hi2] at hz
                                have hle := hee.1
                                rw [if_neg (by omega), if_neg (by omega)]
                                exact old hz)
                      exact Step.behind hR (rd := []) ⟨σ, Locked σ S R ids, hund, t1, t2, fun _ _ => rfl⟩
              · cases h
            · cases h
          · cases h
        · cases h
      · rename_i cs hr
        split at h
        · rename_i hz
          obtain ⟨rfl, hoff⟩ := hz
          simp only [Option.some.injEq] at h; subst h
          cases hpx with
          | imm hv => cases hv
          | ptr id idx off b sz' n' c hσ h1' =>
            obtain ⟨b', cur, te, hk, hh, hs, hscb, hrel⟩ := hR.ok id _ hr
            have q := hk.symm.trans hσ
            simp only [Option.some.injEq, Loc.row.injEq] at q
            obtain ⟨rfl, rfl, rfl, rfl⟩ := q
            have hrun := run_storeAt (P := P) (w := w) (v := vy) (k := off) hn hh (by omega) (by omega) hone
            refine ⟨undef, _, runs (by rw [hax, hay, Nat.zero_mul, Nat.zero_add]; exact hrun), ?_⟩
            have hvl : vy.cells.toList.length = n := by simp; omega
            have hspl : splice cs off n v.cells = cs.take off ++ v.cells ++ cs.drop (off + v.cells.length) := by rw [hlen]; rfl
            have hslen : (splice cs off n v.cells).length = cs.length := by rw [hspl]; simp; omega
            obtain ⟨t1, t2⟩ := hR.turn (w' := w.setRow b' (cur.toList.take off ++ vy.cells.toList ++ cur.toList.drop (off + vy.cells.toList.length)).toArray)
              (row := .box (splice cs off n v.cells)) hr ⟨_, hk, rfl⟩ (fun b hb => setRow_other w b' b _ hb) (Same.setRow ..) (fun hkeep => by
                refine ⟨b', _, te, by rw [hslen]; exact hk, setRow_heap w b' cur _ te _ hh, by rw [hslen]; simp; omega, ?_, fun i z hz => ?_⟩
                · intro c hc
                  unfold splice at hc
                  simp only [List.mem_append] at hc
                  rcases hc with (hm | hm) | hm
                  · exact hscb _ (List.mem_of_mem_take hm)
                  · exact hsc' _ hm
                  · exact hscb _ (List.mem_of_mem_drop hm)
                · rw [hspl, getElem?_spliced _ _ _ _ (by omega)] at hz
                  simp only [List.getElem?_toArray]
                  rw [getElem?_spliced _ _ _ _ (by simp; omega)]
                  have old : ∀ {z : AV}, cs[i]? = some z → ∃ v, cur.toList[i]? = some v ∧ RelV σ S (w.setRow b' (cur.toList.take off ++ vy.cells.toList ++ cur.toList.drop (off + vy.cells.toList.length)).toArray) v z := by
                    intro z hz
                    obtain ⟨v', hv', hr'⟩ := hrel i z hz
                    exact ⟨v', by rw [Array.getElem?_toList]; exact hv', hr'.mono (Ids.le_refl σ) (fun _ h => h) hkeep⟩
                  by_cases hi1 : i < off
                  · rw [if_pos hi1] at hz ⊢; exact old hz
                  · rw [if_neg hi1] at hz ⊢
                    by_cases hi2 : i < off + v.cells.length
                    · rw [if_pos hi2] at hz
                      rw [if_pos (by omega)]
                      have hj' : i - off < vy.cells.size := by omega
                      exact ⟨vy.cells[i - off], by rw [Array.getElem?_toList]; exact Array.getElem?_eq_getElem hj', (c2 _ _ _ (Array.getElem?_eq_getElem hj') hz).mono (Ids.le_refl σ) (fun _ h => h) hkeep⟩
                    · rw [if_neg hi2] at hz
                      rw [if_neg (by omega)]
                      exact old hz)
            exact ⟨σ, S, hund, t1, t2, fun _ _ => rfl⟩
        · cases h
      · cases h
    · cases h
  · cases h

end
end Go.Abs
