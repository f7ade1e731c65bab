/-
  Steps of operations, fifth part: structs and rows that are built, made, and appended to.
-/
import Derived.Test.YtfokmdhmaabegaaOps4
set_option linter.all false
namespace Go.Abs

/-! ## Filling cells -/

theorem fold_set (off : Nat) : ∀ (l : List Value) (k : Nat) (cells : Array Value), off + k + l.length ≤ cells.size →
    ((l.zipIdx k).foldl (fun (cs : Array Value) (p : Value × Nat) => cs.setIfInBounds (off + p.2) p.1) cells).size = cells.size ∧
    ∀ i : Nat, ((l.zipIdx k).foldl (fun (cs : Array Value) (p : Value × Nat) => cs.setIfInBounds (off + p.2) p.1) cells)[i]? =
      if i < off + k then cells[i]? else if i < off + k + l.length then l[i - (off + k)]? else cells[i]?
  | [], k, cells, _ => by
    refine ⟨rfl, fun i => ?_⟩
    simp only [List.zipIdx_nil, List.foldl_nil, List.length_nil, Nat.add_zero]
    by_cases h : i < off + k <;> simp [h]
  | v :: l, k, cells, h => by
    simp only [List.zipIdx_cons, List.foldl_cons]
    have h' : off + (k + 1) + l.length ≤ (cells.setIfInBounds (off + k) v).size := by simp at h ⊢; omega
    obtain ⟨h1, h2⟩ := fold_set off l (k + 1) _ h'
    refine ⟨by rw [h1]; simp, fun i => ?_⟩
    rw [h2 i]
    have hk : off + k < cells.size := by simp at h; omega
    by_cases c1 : i < off + k
    · rw [if_pos (by omega), if_pos c1, Array.getElem?_setIfInBounds_ne (by omega)]
    · rw [if_neg c1]
      by_cases c2 : i = off + k
      · subst c2
        rw [if_pos (by omega), if_pos (by simp)]
        simp [hk]
      · rw [if_neg (by omega)]
        by_cases c3 : i < off + (k + 1) + l.length
        · rw [if_pos c3, if_pos (by simp; omega)]
          rw [show i - (off + k) = i - (off + (k + 1)) + 1 by omega, List.getElem?_cons_succ]
        · rw [if_neg c3, if_neg (by simp; omega), Array.getElem?_setIfInBounds_ne (by omega)]

theorem filled (off : Nat) (vs cells : Array Value) (h : off + vs.size ≤ cells.size) :
    (vs.zipIdx.foldl (fun cs (p : Value × Nat) => cs.setIfInBounds (off + p.2) p.1) cells).size = cells.size ∧
    ∀ i : Nat, (vs.zipIdx.foldl (fun cs (p : Value × Nat) => cs.setIfInBounds (off + p.2) p.1) cells)[i]? =
      if i < off then cells[i]? else if i < off + vs.size then vs[i - off]? else cells[i]? := by
  have := fold_set off vs.toList 0 cells (by simpa using h)
  rw [← Array.foldl_toList, Array.toList_zipIdx]
  simpa using this

section
variable {P : Program} {Own : Nat → Prop} {σ : Ids} {S : Nat → Prop} {w : World} {R : Nat → Option Row} {s : Nat} {T : Nat → Option AV} {a : Act} {o : Oper} {e : Eff}

/-- cells stand to cells -/
def CellsOk (Rel : Value → AV → Prop) (cells : Array Value) (cs : List AV) : Prop :=
  cells.size = cs.length ∧ ∀ (i : Nat) v c, cells[i]? = some v → cs[i]? = some c → Rel v c

theorem CellsOk.filled {Rel : Value → AV → Prop} {cells vs : Array Value} {cs xs : List AV} {off : Nat} (h : CellsOk Rel cells cs) (hv : CellsOk Rel vs xs) (hl : off + xs.length ≤ cs.length) :
    CellsOk Rel (vs.zipIdx.foldl (fun cs (p : Value × Nat) => cs.setIfInBounds (off + p.2) p.1) cells) (splice cs off xs.length xs) := by
  obtain ⟨h1, h2⟩ := Abs.filled off vs cells (by rw [h.1, hv.1]; exact hl)
  have hs : splice cs off xs.length xs = cs.take off ++ xs ++ cs.drop (off + xs.length) := rfl
  refine ⟨by rw [h1, h.1, hs]; simp; omega, fun i v c hi hc => ?_⟩
  rw [h2 i, hv.1] at hi
  rw [hs, getElem?_spliced _ _ _ _ hl] at hc
  by_cases c1 : i < off
  · rw [if_pos c1] at hi hc; exact h.2 i v c hi hc
  · rw [if_neg c1] at hi hc
    by_cases c2 : i < off + xs.length
    · rw [if_pos c2] at hi hc; exact hv.2 _ v c hi hc
    · rw [if_neg c2] at hi hc; exact h.2 i v c hi hc

/-- parts of a struct or an array -/
theorem fill_parts {place : Nat → Option (Nat × Nat)} : ∀ {parts : List (Nat × Value)} {aparts : List (Nat × Nat × AV)} {cells : Array Value} {cs cs' : List AV},
    parts.length = aparts.length → (∀ (i : Nat) p q, parts[i]? = some p → aparts[i]? = some q → place p.1 = some (q.1, q.2.1) ∧ RelV σ S w p.2 q.2.2) →
    CellsOk (RelV σ S w) cells cs → setParts cs aparts = some cs' → ∃ cells', Instr.fill place cells parts = some cells' ∧ CellsOk (RelV σ S w) cells' cs'
  | [], [], cells, cs, cs', _, _, hc, h => by simp [setParts] at h; subst h; exact ⟨cells, rfl, hc⟩
  | [], _ :: _, _, _, _, hl, _, _, _ => by simp at hl
  | _ :: _, [], _, _, _, hl, _, _, _ => by simp at hl
  | (i, v) :: parts, (off, n, av) :: aparts, cells, cs, cs', hl, hp, hc, h => by
    obtain ⟨hpl, hrel⟩ := hp 0 _ _ rfl rfl
    simp only [setParts] at h
    split at h
    · rename_i hcond
      obtain ⟨h1, h2, h3⟩ := hcond
      have hvc := hrel.cells (by simpa using h3)
      have hvc' : v.cells.size = n := by rw [hvc.1, h1]
      have hstep := CellsOk.filled (off := off) hc hvc (by rw [h1]; exact h2)
      rw [h1] at hstep
      obtain ⟨cells', r1, r2⟩ := fill_parts (place := place) (by simpa using hl) (fun i p q hp' hq' => hp (i + 1) p q (by simpa using hp') (by simpa using hq')) hstep h
      refine ⟨cells', ?_, r2⟩
      have hsz := hc.1
      simp only [Instr.fill]
      rw [hpl]
      simp only []
      rw [if_neg (by simp [hvc', hsz]; omega)]
      exact r1
    · cases h

theorem build_struct_sound {t : TypeId} {parts : Array (Nat × Operand)} {fields : Array Field} {z : AV} {ps : List (Nat × Nat × AOpd)} (hT : TmpsOk σ S w T a) (hR : RowsOk Own σ S w R)
    (ho : o.op = .build t parts) (ht : P.underlying t = some (.struct fields)) (hz : zeroOf P t = some z) (hzs : ∀ c ∈ z.cells, c.scalar = true)
    (hps : mapO (fun p : Nat × Operand => match fields[p.1]? with
        | some f => match opd P (some f.type) p.2, szOf P f.type with
          | some a, some n => some (f.offset, n, a)
          | _, _ => none
        | _ => none) parts.toList = some ps) (hall : (fields.all fun f => (szOf P f.type).isSome) = true)
    (call : CallF) (h : evalOp call s (getO T) R (.build z.cells ps) = some e) : ∃ v w', OpRuns P a o w v w' ∧ Step Own σ S w R s e v w' := by
  unfold zeroOf at hz
  split at hz
  · rename_i i hi
    split at hz
    · rename_i zv hzv
      split at hz
      · simp only [evalOp] at h
        split at h
        · rename_i aps haps
          split at h
          · rename_i cs hcs
            simp at h; subst h
            obtain ⟨l1, l2⟩ := mapO_spec hps
            obtain ⟨l3, l4⟩ := mapO_spec haps
            have hzc : CellsOk (RelV σ S w) zv.cells z.cells := (RelV.imm (ofVal_rel hz)).cells hzs
            have hplaces : (fields.mapM fun f => (do pure (f.offset, ← sizeOf f.type) : Sem (Nat × Nat))).run P w = .ok (fields.map fun f => (f.offset, ((P.info? f.type).map (·.size)).getD 0)) w := by
              rw [Array.mapM_eq_mapM_toList]
              have : ∀ l : List Field, (∀ f ∈ l, (szOf P f.type).isSome = true) → (l.mapM fun f => (do pure (f.offset, ← sizeOf f.type) : Sem (Nat × Nat))).run P w = .ok (l.map fun f => (f.offset, ((P.info? f.type).map (·.size)).getD 0)) w := by
                intro l
                induction l with
                | nil => intro _; simp
                | cons f l ih =>
                  intro hl
                  have hf := hl f (List.mem_cons_self ..)
                  simp only [szOf, Option.isSome_map] at hf
                  obtain ⟨inf, hinf⟩ := Option.isSome_iff_exists.1 hf
                  have ih' := ih fun f hf => hl f (List.mem_cons_of_mem _ hf)
                  rw [List.mapM_cons]
                  simp only [Sem.run_bind, sizeOf, typeInfo, run_program, Result.andThen_ok, hinf, Sem.run_pure] at ih' ⊢
                  rw [ih']
                  simp [hinf]
              have := this fields.toList (fun f hf => by
                rw [Array.all_eq_true_iff_forall_mem] at hall
                exact hall f (by simpa using hf))
              simp only [Sem.run_map]
              rw [this]
              simp only [Result.andThen_ok]
              congr 1
              apply Array.ext'
              simp
            obtain ⟨cells', r1, r2⟩ := fill_parts (σ := σ) (S := S) (w := w) (place := ((fields.map fun f => (f.offset, ((P.info? f.type).map (·.size)).getD 0))[·]?)) (parts := (parts.map fun p => (p.1, a.eval p.2)).toList) (aparts := aps)
              (by simp [l3, l1]) (fun i p q hp hq => by
                simp only [Array.toList_map, List.getElem?_map, Option.map_eq_some_iff] at hp
                obtain ⟨p0, hp0, rfl⟩ := hp
                have hi1 : i < ps.length := by have := (List.getElem?_eq_some_iff.1 hp0).1; omega
                have e1 := l2 i _ _ hp0 (List.getElem?_eq_getElem hi1)
                have e2 := l4 i _ _ (List.getElem?_eq_getElem hi1) hq
                generalize ps[i] = pi at e1 e2
                split at e1
                · rename_i f hf
                  split at e1
                  · rename_i ao n hao hn
                    simp only [Option.some.injEq] at e1
                    subst e1
                    simp only [bdPart] at e2
                    split at e2
                    · rename_i v hv
                      simp only [Option.some.injEq] at e2
                      subst e2
                      refine ⟨?_, opd_sound hT hao hv⟩
                      simp only [szOf, Option.map_eq_some_iff] at hn
                      obtain ⟨inf, hinf, rfl⟩ := hn
                      simp [hf, hinf]
                    · cases e2
                  · cases e1
                · cases e1) hzc hcs
            refine fin_pure hR (sem := Instr.build t (parts.map fun (i, x) => (i, a.eval x))) (by simp [execOp, ho]) (u := .agg cells') ?_ (.agg _ _ r2.1 r2.2)
            unfold Instr.build
            simp only [Sem.run_bind, zeroValue, typeInfo, run_program, Result.andThen_ok, hi, Sem.run_pure, hzv, run_underlying ht]
            simp only [Sem.run_bind, hplaces, Result.andThen_ok]
            have : (parts.map fun (x : Nat × Operand) => match x with | (i, x) => (i, a.eval x)).toList = (parts.map fun p => (p.1, a.eval p.2)).toList := rfl
            rw [this, r1]
            rfl
          · cases h
        · cases h
      · cases hz
    · cases hz
  · cases hz

theorem build_array_sound {t el : TypeId} {len n : Nat} {parts : Array (Nat × Operand)} {z : AV} {ps : List (Nat × Nat × AOpd)} (hT : TmpsOk σ S w T a) (hR : RowsOk Own σ S w R)
    (ho : o.op = .build t parts) (ht : P.underlying t = some (.array len el)) (hz : zeroOf P t = some z) (hzs : ∀ c ∈ z.cells, c.scalar = true) (hn : szOf P el = some n)
    (hps : mapO (fun p : Nat × Operand => match opd P (some el) p.2 with
        | some a => some (p.1 * n, n, a)
        | none => none) parts.toList = some ps)
    (call : CallF) (h : evalOp call s (getO T) R (.build z.cells ps) = some e) : ∃ v w', OpRuns P a o w v w' ∧ Step Own σ S w R s e v w' := by
  unfold zeroOf at hz
  split at hz
  · rename_i i hi
    split at hz
    · rename_i zv hzv
      split at hz
      · simp only [evalOp] at h
        split at h
        · rename_i aps haps
          split at h
          · rename_i cs hcs
            simp at h; subst h
            obtain ⟨l1, l2⟩ := mapO_spec hps
            obtain ⟨l3, l4⟩ := mapO_spec haps
            have hzc : CellsOk (RelV σ S w) zv.cells z.cells := (RelV.imm (ofVal_rel hz)).cells hzs
            obtain ⟨cells', r1, r2⟩ := fill_parts (σ := σ) (S := S) (w := w) (place := fun i => some (i * n, n)) (parts := (parts.map fun p => (p.1, a.eval p.2)).toList) (aparts := aps)
              (by simp [l3, l1]) (fun i p q hp hq => by
                simp only [Array.toList_map, List.getElem?_map, Option.map_eq_some_iff] at hp
                obtain ⟨p0, hp0, rfl⟩ := hp
                have hi1 : i < ps.length := by have := (List.getElem?_eq_some_iff.1 hp0).1; omega
                have e1 := l2 i _ _ hp0 (List.getElem?_eq_getElem hi1)
                have e2 := l4 i _ _ (List.getElem?_eq_getElem hi1) hq
                generalize ps[i] = pi at e1 e2
                split at e1
                · rename_i ao hao
                  simp only [Option.some.injEq] at e1
                  subst e1
                  simp only [bdPart] at e2
                  split at e2
                  · rename_i v hv
                    simp only [Option.some.injEq] at e2
                    subst e2
                    exact ⟨rfl, opd_sound hT hao hv⟩
                  · cases e2
                · cases e1) hzc hcs
            refine fin_pure hR (sem := Instr.build t (parts.map fun (i, x) => (i, a.eval x))) (by simp [execOp, ho]) (u := .agg cells') ?_ (.agg _ _ r2.1 r2.2)
            simp only [szOf, Option.map_eq_some_iff] at hn
            obtain ⟨inf, hinf, rfl⟩ := hn
            unfold Instr.build
            simp only [Sem.run_bind, zeroValue, typeInfo, run_program, Result.andThen_ok, hi, Sem.run_pure, hzv, run_underlying ht]
            have : (parts.map fun (x : Nat × Operand) => match x with | (i, x) => (i, a.eval x)).toList = (parts.map fun p => (p.1, a.eval p.2)).toList := rfl
            simp only [Sem.run_bind, sizeOf, typeInfo, run_program, Result.andThen_ok, hinf, Sem.run_pure]
            rw [this, r1]
            rfl
          · cases h
        · cases h
      · cases hz
    · cases hz
  · cases hz

/-- the zero value, again and again -/
theorem zeros_ok {sz n : Nat} {z : AV} {zv : Array Value} (hz : CellsOk (RelI S w) zv z.cells) (hl : z.cells.length = sz) (h0 : 0 < sz) :
    CellsOk (RelI S w) (madeCells zv (n * sz)) (flat (List.replicate n z)) := by
  have hlen : (flat (List.replicate n z)).length = n * sz := by
    induction n with
    | zero => simp [flat]
    | succ n ih =>
      simp only [flat, List.replicate_succ, List.flatMap_cons, List.length_append] at ih ⊢
      rw [ih, hl, Nat.add_mul]; omega
  refine ⟨by rw [size_madeCells, hlen], fun i v c hv hc => ?_⟩
  have hi : i < n * sz := by rw [← hlen]; exact (List.getElem?_eq_some_iff.1 hc).1
  have hzs : zv.size = sz := by rw [hz.1, hl]
  have hm : i % sz < sz := Nat.mod_lt _ h0
  have e1 : v = zv[i % sz]'(by omega) := by
    unfold madeCells at hv
    subst hzs
    simp [hi] at hv
    rw [← hv]
    simp [hm]
  have e2 : z.cells[i % sz]? = some c := by
    have key : ∀ (n i : Nat), i < n * sz → (flat (List.replicate n z))[i]? = z.cells[i % sz]? := by
      intro n
      induction n with
      | zero => intro i hi; simp at hi
      | succ n ih =>
        intro i hi
        simp only [flat, List.replicate_succ, List.flatMap_cons] at ih ⊢
        by_cases hlt : i < sz
        · rw [List.getElem?_append_left (by omega), Nat.mod_eq_of_lt hlt]
        · rw [List.getElem?_append_right (by omega), hl, ih (i - sz) (by rw [Nat.add_mul] at hi; omega)]
          congr 1
          rw [Nat.mod_eq_sub_mod (a := i) (by omega)]
    rw [← key n i hi]; exact hc
  rw [e1]
  exact hz.2 _ _ _ (Array.getElem?_eq_getElem (by omega)) e2

theorem mkSlice_sound {t el : TypeId} {i : TypeInfo} {z : AV} {l c : Operand} {al ac : AOpd} (hT : TmpsOk σ S w T a) (hR : RowsOk Own σ S w R) (hF : Free Own σ w s)
    (ho : o.op = .makeSlice t l c) (ht : P.underlying t = some (.slice el)) (hi : P.info? el = some i) (hz : zeroOf P el = some z) (h0 : 0 < i.size) (hby : i.bytes ≤ 4096)
    (hzl : z.cells.length = i.size) (hzs : z.cells.all AV.scalar = true) (hl : opd P none l = some al) (hc : opd P none c = some ac)
    (call : CallF) (h : evalOp call s (getO T) R (.mkSlice i.size z al ac) = some e) : ∃ v w', OpRuns P a o w v w' ∧ Step Own σ S w R s e v w' := by
  have hzs' : ∀ c ∈ z.cells, c.scalar = true := by simpa using hzs
  unfold zeroOf at hz
  rw [hi] at hz
  simp only at hz
  split at hz
  · rename_i zv hzv
    split at hz
    · simp only [evalOp] at h
      split at h
      · rename_i m n hgl hgc
        split at h
        · rename_i hcond
          obtain ⟨rfl, hm0, hm1⟩ := hcond
          simp at h; subst h
          have hrm : (roomMax : Int) = 34359738368 := rfl
          rw [hrm] at hm1
          have hzrel : RelI S w zv z := ofVal_rel hz
          have hzc : CellsOk (RelI S w) zv.cells z.cells := hzrel.cells (by rintro rfl; simp [AV.cells, AV.scalar] at hzs') (by rintro u rfl; simpa [AV.cells, AV.scalar] using hzs')
          have hbytes : (i.bytes : Int) * m ≤ 281474976710656 := by
            have h1 : (i.bytes : Int) * m ≤ 4096 * m := Int.mul_le_mul_of_nonneg_right (by omega) hm0
            omega
          have hrun := run_make (P := P) w t el i zv ht hi hzv .i64 .i64 m m hm0 (Int.le_refl _) hbytes (by omega)
          have hzok := zeros_ok (n := m.toNat) hzc hzl h0
          have hrep : (List.replicate m.toNat z).length = m.toNat := by simp
          have key := new_arr (w' := w.alloc (.cells (madeCells zv.cells (m.toNat * i.size)) el)) (t := el) (sz := i.size) (c := m.toNat) (es := List.replicate m.toNat z) (rd := []) hR hF
            (fun b hb => heap_alloc_old w _ b hb) (Same.alloc w _) (heap_alloc_new w _) (size_madeCells _ _) (by simp) (by simp only [maxLen]; omega) h0
            (fun e he => by have := (List.mem_replicate.1 he).2; subst this; exact ⟨hzl, hzs'⟩)
            (fun j x hx => by
              have hlt : j < (madeCells zv.cells (m.toNat * i.size)).size := by rw [hzok.1]; exact (List.getElem?_eq_some_iff.1 hx).1
              exact ⟨_, Array.getElem?_eq_getElem hlt, hzok.2 j _ x (Array.getElem?_eq_getElem hlt) hx⟩)
          rw [hrep] at key
          refine ⟨_, _, .inl ?_, key⟩
          simp only [execOp, ho, Sem.run_bind, (opd_sound hT hl hgl).int_inv, (opd_sound hT hc hgc).int_inv, hrun, Result.andThen_ok, Sem.run_pure]
        · cases h
      · cases h
    · cases hz
  · cases hz

/-- elements that are laid -/
theorem fill_elems {sz : Nat} : ∀ {parts : List (Nat × Value)} {aparts : List (Nat × AV)} {cells : Array Value} {es es' : List AV},
    parts.length = aparts.length → (∀ (i : Nat) p q, parts[i]? = some p → aparts[i]? = some q → p.1 = q.1 ∧ RelI S w p.2 q.2) → (∀ e ∈ es, Elem sz e) →
    CellsOk (RelI S w) cells (flat es) → setElems sz es aparts = some es' →
    ∃ cells', Instr.fill (fun i => some (i * sz, sz)) cells parts = some cells' ∧ CellsOk (RelI S w) cells' (flat es') ∧ (∀ e ∈ es', Elem sz e) ∧ es'.length = es.length
  | [], [], cells, es, es', _, _, he, hc, h => by simp [setElems] at h; subst h; exact ⟨cells, rfl, hc, he, rfl⟩
  | [], _ :: _, _, _, _, hl, _, _, _, _ => by simp at hl
  | _ :: _, [], _, _, _, hl, _, _, _, _ => by simp at hl
  | (i, v) :: parts, (j, av) :: aparts, cells, es, es', hl, hp, he, hc, h => by
    obtain ⟨hij, hrel⟩ := hp 0 _ _ rfl rfl
    simp only at hij hrel
    subst hij
    simp only [setElems] at h
    split at h
    · rename_i hcond
      obtain ⟨h1, h2, h3⟩ := hcond
      have h3' : ∀ c ∈ av.cells, c.scalar = true := by simpa using h3
      have hvc : CellsOk (RelI S w) v.cells av.cells := hrel.cells (by rintro rfl; simp [AV.cells, AV.scalar] at h3') (by rintro u rfl; simpa [AV.cells, AV.scalar] using h3')
      have hfl := flat_length he
      have hfit : i * sz + av.cells.length ≤ (flat es).length := by
        rw [hfl, h2]
        have : i * sz + 1 * sz ≤ es.length * sz := by rw [← Nat.add_mul]; exact Nat.mul_le_mul_right _ (by omega)
        omega
      have hstep := CellsOk.filled (off := i * sz) hc hvc hfit
      have hset : splice (flat es) (i * sz) av.cells.length av.cells = flat (es.set i av) := by
        apply List.ext_getElem?
        intro k
        rw [flat_set he h1 h2]
        have : splice (flat es) (i * sz) av.cells.length av.cells = (flat es).take (i * sz) ++ av.cells ++ (flat es).drop (i * sz + av.cells.length) := rfl
        rw [this, getElem?_spliced _ _ _ _ hfit, h2]
      rw [hset] at hstep
      have he' : ∀ e ∈ es.set i av, Elem sz e := by
        intro e hm
        rcases List.mem_or_eq_of_mem_set hm with hm | rfl
        · exact he e hm
        · exact ⟨h2, h3'⟩
      obtain ⟨cells', r1, r2, r3, r4⟩ := fill_elems (by simpa using hl) (fun k p q hp' hq' => hp (k + 1) p q (by simpa using hp') (by simpa using hq')) he' hstep h
      refine ⟨cells', ?_, r2, r3, by rw [r4]; simp⟩
      have hsz := hc.1
      have hvs := hvc.1
      simp only [Instr.fill]
      rw [if_neg (by simp; omega)]
      exact r1
    · cases h

theorem mkList_sound {t el : TypeId} {n len : Nat} {z : AV} {parts : Array (Nat × Operand)} {ps : List (Nat × AOpd)} (hT : TmpsOk σ S w T a) (hR : RowsOk Own σ S w R) (hF : Free Own σ w s)
    (ho : o.op = .buildSlice t len parts) (ht : P.underlying t = some (.slice el)) (hn : szOf P el = some n) (hz : zeroOf P el = some z)
    (hps : mapO (fun p : Nat × Operand => match opd P (some el) p.2 with
          | some a => some (p.1, a)
          | none => none) parts.toList = some ps) (h0 : 0 < n) (hlen : len * n ≤ 65536) (hzl : z.cells.length = n) (hzs : z.cells.all AV.scalar = true)
    (h : evMkList s (getO T) R n z len ps = some e) : ∃ v w', OpRuns P a o w v w' ∧ Step Own σ S w R s e v w' := by
  have hzs' : ∀ c ∈ z.cells, c.scalar = true := by simpa using hzs
  unfold zeroOf at hz
  split at hz
  · rename_i i hi
    split at hz
    · rename_i zv hzv
      split at hz
      · rename_i hzsz
        have hin : i.size = n := by simpa [szOf, hi] using hn
        unfold evMkList at h
        split at h
        · rename_i aps haps
          split at h
          · rename_i es hes
            obtain ⟨l1, l2⟩ := mapO_spec hps
            obtain ⟨l3, l4⟩ := mapO_spec haps
            obtain ⟨hL1, hL2⟩ := hR.lock (aps.flatMap fun p => p.2.2)
            have hzrel : RelI (Locked σ S R (aps.flatMap fun p => p.2.2)) w zv z := ofVal_rel hz
            have hzc : CellsOk (RelI (Locked σ S R (aps.flatMap fun p => p.2.2)) w) zv.cells z.cells := hzrel.cells (by rintro rfl; simp [AV.cells, AV.scalar] at hzs') (by rintro u rfl; simpa [AV.cells, AV.scalar] using hzs')
            have hzok := zeros_ok (n := len) hzc hzl h0
            obtain ⟨cells', r1, r2, r3, r4⟩ := fill_elems (S := Locked σ S R (aps.flatMap fun p => p.2.2)) (w := w) (parts := (parts.map fun p => (p.1, a.eval p.2)).toList) (aparts := aps.map fun p => (p.1, p.2.1))
              (by simp [l3, l1]) (fun k p q hp hq => by
                simp only [Array.toList_map, List.getElem?_map, Option.map_eq_some_iff] at hp hq
                obtain ⟨p0, hp0, rfl⟩ := hp
                obtain ⟨q0, hq0, rfl⟩ := hq
                have hi1 : k < ps.length := by have := (List.getElem?_eq_some_iff.1 hp0).1; omega
                have e1 := l2 k _ _ hp0 (List.getElem?_eq_getElem hi1)
                have e2 := l4 k _ _ (List.getElem?_eq_getElem hi1) hq0
                generalize ps[k] = pi at e1 e2
                split at e1
                · rename_i ao hao
                  simp only [Option.some.injEq] at e1
                  subst e1
                  simp only [mkPart] at e2
                  split at e2
                  · rename_i v hv
                    split at e2
                    · rename_i v' ids hfr
                      simp only [Option.some.injEq] at e2
                      subst e2
                      refine ⟨rfl, (frz_sound hR _ hfr (opd_sound hT hao hv)).lockMono fun x hx => ?_⟩
                      rw [List.mem_flatMap]
                      exact ⟨_, List.mem_of_getElem? hq0, hx⟩
                    · cases e2
                  · cases e2
                · cases e1) (fun e he => by have := (List.mem_replicate.1 he).2; subst this; exact ⟨hzl, hzs'⟩) hzok hes
            have hrun : (Instr.buildSlice t len (parts.map fun (i, x) => (i, a.eval x))).run P w = .ok (.slice (some ⟨w.heap.size, 0, none⟩) len len) (w.alloc (.cells cells' el)) := by
              unfold Instr.buildSlice
              simp only [Sem.run_bind, run_underlying ht, Result.andThen_ok, sizeOf, typeInfo, run_program, hi, Sem.run_pure, hin]
              have hbig : ¬ (len * n > 2 ^ 24) := by omega
              simp only [hbig, if_false, Sem.run_bind, Sem.run_pure, Result.andThen_ok, pure_bind]
              have heq : (parts.map fun (x : Nat × Operand) => match x with | (i, x) => (i, a.eval x)).toList = (parts.map fun p => (p.1, a.eval p.2)).toList := rfl
              by_cases hz0 : len * n = 0
              · simp only [hz0, if_true, Sem.run_pure, Result.andThen_ok] at r1 ⊢
                rw [heq]
                have : madeCells zv.cells 0 = (Array.range 0).map ((#[] : Array Value)[· % (#[] : Array Value).size]!) := by simp [madeCells]
                rw [this] at r1
                rw [r1]
                simp [newRow]
              · simp only [hz0, if_false, Sem.run_bind, zeroValue, typeInfo, run_program, Result.andThen_ok, hi, hzv, Sem.run_pure]
                rw [heq]
                have : madeCells zv.cells (len * n) = (Array.range (len * n)).map (zv.cells[· % zv.cells.size]!) := rfl
                rw [this] at r1
                rw [r1]
                simp [newRow]
            have hexec : (execOp a.eval o).run P w = .ok (.value (.slice (some ⟨w.heap.size, 0, none⟩) len len)) (w.alloc (.cells cells' el)) := by
              simp only [execOp, ho, Sem.run_bind, hrun, Result.andThen_ok, Sem.run_pure]
            split at h
            · rename_i hl0
              subst hl0
              simp only [Option.some.injEq] at h; subst h
              refine ⟨_, _, .inl hexec, σ, S, .imm (.nil _ _), ?_, ⟨Ids.le_refl σ, fun _ h => h, fun b hb => heap_alloc_old w _ b (hR.old b hb), fun b hb => heap_alloc_old w _ b ?_, Same.alloc w _, fun _ h => .inl h⟩, fun _ _ => rfl⟩
              · refine ⟨fun id r hr => ?_, hR.apart, hR.inj, fun b hb => by have := hR.old b hb; simp; omega⟩
                exact (hR.ok id r hr).mono (Ids.le_refl σ) (fun _ h => h) (fun b hb => heap_alloc_old w _ b (hR.old b hb)) fun b hb => heap_alloc_old w _ b (hR.lt hr hb)
              · exact Nat.lt_of_not_le fun hle => hb (hF.own b hle)
            · simp only [Option.some.injEq] at h; subst h
              have hel : es.length = len := by rw [r4]; simp
              have hfl := flat_length r3
              refine ⟨_, _, .inl hexec, Step.behind hR (rd := []) ?_⟩
              have key := new_arr (w' := w.alloc (.cells cells' el)) (t := el) (sz := n) (c := len) (es := es) (rd := []) hL1 hF
                (fun b hb => heap_alloc_old w _ b hb) (Same.alloc w _) (heap_alloc_new w _) (by rw [r2.1, hfl, hel]) (by omega) (by
                  have : len ≤ len * n := Nat.le_mul_of_pos_right _ h0
                  simp only [maxLen]; omega) h0 r3
                (fun j x hx => by
                  have hlt : j < cells'.size := by rw [r2.1]; exact (List.getElem?_eq_some_iff.1 hx).1
                  exact ⟨_, Array.getElem?_eq_getElem hlt, r2.2 j _ x (Array.getElem?_eq_getElem hlt) hx⟩)
              rw [hel] at key
              exact key
          · cases h
        · cases h
      · cases hz
    · cases hz
  · cases hz

end
end Go.Abs
