/-
  Steps of operations, second part: those that only compute, and those that look into rows.
-/
import Derived.Test.YtfokmdhmaabegaaOps1
set_option linter.all false
namespace Go.Abs

/-- an operation runs to a value -/
def OpRuns (P : Program) (a : Act) (o : Oper) (w : World) (v : Value) (w' : World) : Prop :=
  (execOp a.eval o).run P w = .ok (.value v) w' ∨ ((execOp a.eval o).run P w = .ok .skip w' ∧ v = undef)

theorem OpRuns.wp {P : Program} {a : Act} {o : Oper} {w w' : World} {v : Value} {K : Act → World → Prop} {Q : Exit → Act → World → Prop}
    (h : OpRuns P a o w v w') (hk : K (a.put o.dst v) w') : o.wp P a w K Q := by
  unfold Oper.wp
  rcases h with h | ⟨h, rfl⟩ <;> rw [h] <;> exact hk

section
variable {P : Program} {Own : Nat → Prop} {σ : Ids} {S : Nat → Prop} {w : World} {R : Nat → Option Row} {s : Nat} {T : Nat → Option AV} {a : Act}

theorem binI_run {op : BinOp} {k k' : IntKind} {x y : Int} {v : AV} {t : TypeId} {ox oy : Operand} (h : binI op k x k' y = some v) :
    ∃ u, (do eqGuard op t ox oy (.int k x) (.int k' y); binOp op t (.int k x) (.int k' y) : Sem Value).run P w = .ok u w ∧ RelI S w u v := by
  have hg : (eqGuard op t ox oy (.int k x) (.int k' y)).run P w = .ok () w := by
    unfold eqGuard
    cases op <;> simp
  rw [Sem.run_bind, hg, Result.andThen_ok]
  cases op <;> simp only [binI] at h <;>
    first
      | (split at h; · cases h
         simp only [Option.some.injEq] at h; subst h
         rename_i hn
         refine ⟨_, ?_, .int _ _⟩
         simp [binOp, Op.shift, hn]; done)
      | (split at h; · cases h
         rename_i hk
         have hk : k = k' := Decidable.of_not_not hk
         subst hk
         first
           | (simp only [Option.some.injEq] at h; subst h
              first
                | (refine ⟨_, ?_, .int _ _⟩; simp [binOp, Op.intArith, Op.intBits]; done)
                | (refine ⟨_, ?_, .bool _⟩; simp [binOp, Op.intCmp]; done))
           | (split at h; · cases h
              rename_i hz
              simp only [Option.some.injEq] at h; subst h
              refine ⟨_, ?_, .int _ _⟩
              simp [binOp, Op.intDiv, hz]; done))

theorem mapO_spec {α β : Type} {f : α → Option β} : ∀ {l : List α} {r : List β}, mapO f l = some r → r.length = l.length ∧ ∀ (i : Nat) x y, l[i]? = some x → r[i]? = some y → f x = some y
  | [], r, h => by simp [mapO] at h; subst h; simp
  | x :: l, r, h => by
    simp only [mapO] at h
    split at h
    · cases h
    · rename_i y hy
      split at h
      · cases h
      · rename_i ys hys
        simp at h; subst h
        obtain ⟨h1, h2⟩ := mapO_spec hys
        refine ⟨by simp [h1], fun i a b ha hb => ?_⟩
        cases i with
        | zero => simp at ha hb; subst ha hb; exact hy
        | succ i => simp at ha hb; exact h2 i a b ha hb

/-- cells that stand in memory -/
theorem run_loadVar_cells {t : TypeId} {n : Nat} {ag : Bool} {b o : Nat} {f : Nat → Value} (hn : szOf P t = some n) (ha : agOf P t = some ag) (h1 : ag = false → n = 1)
    (hc : ∀ i, i < n → w.cell? ⟨b, o + i, none⟩ = some (f i)) :
    (loadVar t ⟨b, o, none⟩).run P w = .ok (if ag then .agg (((List.range n).map f).toArray) else f 0) w := by
  simp only [szOf, Option.map_eq_some_iff] at hn
  obtain ⟨i, hi, rfl⟩ := hn
  simp only [agOf, Option.map_eq_some_iff] at ha
  obtain ⟨d, hd, rfl⟩ := ha
  have hagg : (isAgg t).run P w = .ok (isAggD d) w := by
    unfold isAgg
    rw [Sem.run_bind, run_underlying hd]
    cases d <;> rfl
  unfold loadVar
  rw [Sem.run_bind, hagg, Result.andThen_ok]
  cases hag : isAggD d with
  | true =>
    have hl : (loadCells ⟨b, o, none⟩ i.size).run P w = .ok ((List.range i.size).map f).toArray w := by
      have := run_loadCells_list (P := P) w ⟨b, o, none⟩ ((List.range i.size).map f) (fun j v hv => by
        rw [List.getElem?_map] at hv
        simp only [Option.map_eq_some_iff] at hv
        obtain ⟨x, hx, rfl⟩ := hv
        have hlt : j < i.size := by have := (List.getElem?_eq_some_iff.1 hx).1; simpa using this
        rw [List.getElem?_range hlt] at hx
        cases hx
        rw [Addr.add_lit]; exact hc j hlt)
      simpa using this
    simp [sizeOf, typeInfo, hi, hl]
  | false =>
    have : i.size = 1 := h1 hag
    have := hc 0 (by omega)
    simp at this
    simp [this]

theorem part_rel {ag : Bool} {off n : Nat} {cs : List AV} {v : AV} {f : Nat → Value} (h : part ag off n cs = some v) (h1 : ag = false → n = 1)
    (hr : ∀ (i : Nat) c, cs[i]? = some c → RelV σ S w (f i) c) : RelV σ S w (if ag then .agg (((List.range n).map fun i => f (off + i)).toArray) else f off) v := by
  unfold part at h
  split at h
  · rename_i hl
    split at h
    · rename_i hag
      subst hag
      simp at h; subst h
      simp only [if_true]
      refine .agg _ _ (by simp; omega) fun i v c hv hc => ?_
      have hi : i < n := by
        have := (Array.getElem?_eq_some_iff.1 hv).1
        simpa using this
      have e1 : v = f (off + i) := by simpa [hi] using hv.symm
      have e2 : cs[off + i]? = some c := by
        have := List.getElem?_take (l := List.drop off cs) (i := n) (j := i)
        rw [this, if_pos hi, List.getElem?_drop] at hc
        exact hc
      rw [e1]; exact hr _ _ e2
    · rename_i hag
      have : ag = false := by simpa using hag
      subst this
      exact hr _ _ h
  · cases h

/-- a load's cells -/
theorem load_run {t : TypeId} {n : Nat} {ag : Bool} {b o off : Nat} {f : Nat → Value} {cs : List AV} {v : AV} (hn : szOf P t = some n) (ha : agOf P t = some ag) (h1 : ag = false → n = 1)
    (h : part ag off n cs = some v) (hc : ∀ i, i < cs.length → w.cell? ⟨b, o + i, none⟩ = some (f i)) (hr : ∀ (i : Nat) c, cs[i]? = some c → RelV σ S w (f i) c) :
    ∃ u, (Instr.loadAt t (.pointer (some ⟨b, o + off, none⟩))).run P w = .ok u w ∧ RelV σ S w u v := by
  have hl : off + n ≤ cs.length := by
    unfold part at h
    split at h
    · assumption
    · cases h
  have := run_loadVar_cells (P := P) (w := w) (b := b) (o := o + off) (f := fun i => f (off + i)) hn ha h1 (fun i hi => by rw [Nat.add_assoc]; exact hc _ (by omega))
  refine ⟨_, ?_, part_rel h h1 hr⟩
  simp only [Instr.loadAt, Instr.sureAddr, pure_bind, Nat.add_zero] at this ⊢
  exact this

theorem load_sound {t : TypeId} {x : Operand} {ao : AOpd} {n : Nat} {ag : Bool} {e : Eff} {o : Oper} (hT : TmpsOk σ S w T a) (hR : RowsOk Own σ S w R) (ho : o.op = .load t x)
    (hn : szOf P t = some n) (ha : agOf P t = some ag) (h1 : ag = false → n = 1) (hx : opd P none x = some ao) (h : evLoad (getO T) R n ag ao = some e) :
    ∃ v w', OpRuns P a o w v w' ∧ Step Own σ S w R s e v w' := by
  unfold evLoad at h
  have fin : ∀ {u : Value} {y : AV} {rd : List Nat}, (Instr.loadAt t (a.eval x)).run P w = .ok u w → RelV σ S w u y → ∃ v w', OpRuns P a o w v w' ∧ Step Own σ S w R s ⟨y, [], rd⟩ v w' := by
    intro u y rd h1 h2
    exact ⟨u, w, .inl (by simp [execOp, ho, h1]), Step.read hR h2⟩
  split at h
  · rename_i y off hg
    split at h
    · rename_i v hp
      simp only [Option.some.injEq] at h; subst h
      have hv := opd_sound hT hx hg
      generalize hax : a.eval x = ax at hv
      cases hv with
      | imm hv =>
        cases hv with
        | iptr b o' off _ f hb he hc hr =>
          obtain ⟨u, h1, h2⟩ := load_run (P := P) (σ := σ) hn ha h1 hp hc fun i c h => .imm (hr i c h)
          exact fin (by rw [hax]; exact h1) h2
    · cases h
  · rename_i id idx off hg
    have hv := opd_sound hT hx hg
    generalize hax : a.eval x = ax at hv
    split at h
    · rename_i sz es hr
      split at h
      · rename_i y hy
        split at h
        · rename_i v hp
          simp only [Option.some.injEq] at h; subst h
          cases hv with
          | imm hv => cases hv
          | ptr id idx off b sz' n' c h h1' =>
            rcases hR.ok id _ hr with ⟨hk, _⟩ | ⟨b', c', cells, t', hk, hh, hs, hn', _, hp', hel, hf⟩
            · rw [hk] at h; cases h
            · have q := hk.symm.trans h
              simp only [Option.some.injEq, Loc.row.injEq] at q
              obtain ⟨rfl, rfl, rfl, rfl⟩ := q
              have hee := hel y (List.mem_of_getElem? hy)
              obtain ⟨u, r1, r2⟩ := load_run (P := P) (σ := σ) (S := S) (w := w) (b := b') (o := idx * sz) (off := off) (f := fun i => cells.getD (idx * sz + i) undef) hn ha h1 hp
                (fun i hi => by
                  rw [cell_of_row w b' _ cells t' (0, 0) hh]
                  rw [hee.1] at hi
                  have : idx * sz + i < cells.size := by
                    have : idx * sz + 1 * sz ≤ c' * sz := by rw [← Nat.add_mul]; exact Nat.mul_le_mul_right _ (by omega)
                    omega
                  simp [this])
                (fun i c hc => by
                  have hi : i < sz := by rw [← hee.1]; exact (List.getElem?_eq_some_iff.1 hc).1
                  have := flat_get hel hy hi
                  rw [hc] at this
                  obtain ⟨v', hv', hrel⟩ := hf _ c this
                  have e1 : cells.getD (idx * sz + i) undef = v' := by simp [Array.getD_eq_getD_getElem?, hv']
                  show RelV σ S w (cells.getD (idx * sz + i) undef) c
                  rw [e1]; exact .imm hrel)
              exact fin (by rw [hax]; exact r1) r2
        · cases h
      · cases h
    · rename_i cs hr
      split at h
      · rename_i hz
        subst hz
        split at h
        · rename_i v hp
          simp only [Option.some.injEq] at h; subst h
          cases hv with
          | imm hv => cases hv
          | ptr id idx off b sz' n' c h h1' =>
            obtain ⟨b', cells, t', hk, hh, hs, hsc, hrel⟩ := hR.ok id _ hr
            have q := hk.symm.trans h
            simp only [Option.some.injEq, Loc.row.injEq] at q
            obtain ⟨rfl, rfl, rfl, rfl⟩ := q
            obtain ⟨u, r1, r2⟩ := load_run (P := P) (σ := σ) (S := S) (w := w) (b := b') (o := 0) (off := off) (f := fun i => cells.getD i undef) hn ha h1 hp
              (fun i hi => by
                rw [Nat.zero_add, cell_of_row w b' _ cells t' (0, 0) hh]
                have : i < cells.size := by omega
                simp [this])
              (fun i c hc => by
                obtain ⟨v', hv', hrel'⟩ := hrel i c hc
                have e1 : cells.getD i undef = v' := by simp [Array.getD_eq_getD_getElem?, hv']
                show RelV σ S w (cells.getD i undef) c
                rw [e1]; exact hrel')
            exact fin (by rw [hax]; simpa using r1) r2
        · cases h
      · cases h
    · cases h
  · cases h

/-- a slice's bounds -/
theorem run_sliceBound {k : IntKind} {i : Int} {y : Nat} {code : BoundsCode} (h0 : 0 ≤ i) (h1 : i ≤ y) : (Instr.sliceBound (.int k i) y code).run P w = .ok i.toNat w := by
  simp [Instr.sliceBound, asIntOf, h0, h1]

theorem run_slice {t el : TypeId} {n : Nat} {ad : Option Addr} {len cap : Nat} {lo hi : Option Value} {l h : Int} (ht : P.underlying t = some (.slice el)) (hn : szOf P el = some n)
    (hl : lo = none ∧ l = 0 ∨ ∃ k, lo = some (.int k l)) (hh : hi = none ∧ h = len ∨ ∃ k, hi = some (.int k h)) (h0 : 0 ≤ l) (h1 : l ≤ h) (h2 : h ≤ cap) :
    (Instr.sliceAt t (.slice ad len cap) lo hi none).run P w = .ok (.slice (if cap = l.toNat then ad else ad.map (·.add (l.toNat * n))) (h.toNat - l.toNat) (cap - l.toNat)) w := by
  simp only [szOf, Option.map_eq_some_iff] at hn
  obtain ⟨i, hi', rfl⟩ := hn
  have hb : (Instr.sliceBounds true len cap lo hi none).run P w = .ok (l.toNat, h.toNat, cap) w := by
    unfold Instr.sliceBounds
    have h0' : 0 ≤ h := by omega
    have hc : l ≤ (h.toNat : Int) := by omega
    rcases hl with ⟨rfl, rfl⟩ | ⟨k, rfl⟩ <;> rcases hh with ⟨rfl, rfl⟩ | ⟨k', rfl⟩
    · simp
    · simp [run_sliceBound h0' h2]
    · have : l ≤ (len : Int) := by simpa using hc
      simp [run_sliceBound h0 this]
    · simp [run_sliceBound h0' h2, run_sliceBound h0 hc]
  unfold Instr.sliceAt
  rw [Sem.run_bind, run_underlying ht, Result.andThen_ok]
  simp only [Instr.slice]
  rw [Sem.run_bind, run_underlying ht, Result.andThen_ok]
  simp only []
  rw [Sem.run_bind, hb, Result.andThen_ok]
  simp [sizeOf, typeInfo, hi']

theorem slice_sound {t el : TypeId} {x : Operand} {lo hi : Option Operand} {ax : AOpd} {alo ahi : Option AOpd} {n : Nat} {e : Eff} {o : Oper} (hT : TmpsOk σ S w T a) (hR : RowsOk Own σ S w R)
    (ho : o.op = .slice t x lo hi none) (ht : P.underlying t = some (.slice el)) (hn : szOf P el = some n) (hx : opd P (some t) x = some ax)
    (hlo : optOpd P lo = some alo) (hhi : optOpd P hi = some ahi) (h : evSlice (getO T) n R ax alo ahi = some e) :
    ∃ v w', OpRuns P a o w v w' ∧ Step Own σ S w R s e v w' := by
  have fin : ∀ {u : Value} {y : AV} {rd : List Nat}, (Instr.sliceAt t (a.eval x) (lo.map a.eval) (hi.map a.eval) none).run P w = .ok u w → RelV σ S w u y → ∃ v w', OpRuns P a o w v w' ∧ Step Own σ S w R s ⟨y, [], rd⟩ v w' := by
    intro u y rd h1 h2
    exact ⟨u, w, .inl (by simp [execOp, ho, h1]), Step.read hR h2⟩
  have opt : ∀ {z : Option Operand} {az : Option AOpd}, optOpd P z = some az → (az = none ∧ z = none) ∨ ∃ y ay, z = some y ∧ az = some ay ∧ opd P none y = some ay := by
    intro z az hz
    cases z with
    | none => simp [optOpd] at hz; exact .inl ⟨hz.symm, rfl⟩
    | some y =>
      simp only [optOpd] at hz
      split at hz
      · rename_i ay hy
        simp at hz
        exact .inr ⟨y, ay, rfl, hz.symm, hy⟩
      · cases hz
  unfold evSlice at h
  split at h
  · rename_i v kl l hgx hgl
    have hv := opd_sound hT hx hgx
    have hlo' : lo.map a.eval = none ∧ l = 0 ∨ ∃ k, lo.map a.eval = some (.int k l) := by
      rcases opt hlo with ⟨rfl, rfl⟩ | ⟨y, ay, rfl, rfl, hy⟩
      · simp at hgl; exact .inl ⟨rfl, hgl.2.symm⟩
      · exact .inr ⟨kl, by simp [(opd_sound hT hy hgl).int_inv]⟩
    generalize hax : a.eval x = va at hv
    split at h
    · rename_i id off len hh hgh
      split at h
      · rename_i sz' es hr
        split at h
        · rename_i hb heq
          split at h
          · rename_i hc
            obtain ⟨rfl, h0, h1, h2⟩ := hc
            simp only [Option.some.injEq] at h; subst h
            have hhi' : hi.map a.eval = none ∧ hb = len ∨ ∃ k, hi.map a.eval = some (.int k hb) := by
              rcases opt hhi with ⟨rfl, rfl⟩ | ⟨y, ay, rfl, rfl, hy⟩
              · simp at hgh; subst hgh; simp at heq; exact .inl ⟨rfl, heq.symm⟩
              · simp only [Option.map_eq_some_iff] at hgh
                obtain ⟨z, hz, rfl⟩ := hgh
                cases z <;> simp at heq
                subst heq
                exact .inr ⟨_, congrArg some (opd_sound hT hy hz).int_inv⟩
            cases hv with
            | imm hv => cases hv
            | sliceV id ad hσ =>
              have := run_slice (P := P) (w := w) (ad := ad) (len := 0) (cap := 0) ht hn hlo' hhi' h0 h1 (by simpa using h2)
              have e1 : l = 0 := by simp at h2; omega
              have e2 : hb = 0 := by simp at h2; omega
              subst e1 e2
              exact fin (by rw [hax]; exact this) (by simpa using RelV.sliceV id ad hσ)
            | slice id off len cap b sz n' c ad hσ q1 q2 q3 q4 =>
              have := run_slice (P := P) (w := w) (ad := some ad) (len := len) (cap := cap) ht hn hlo' hhi' h0 h1 (by omega)
              refine fin (by rw [hax]; exact this) ?_
              rcases hR.ok id _ hr with ⟨hk, _⟩ | ⟨b', c', cells, t', hk, hh', hs, hn', _, hp', hel, hf⟩
              · rw [hk] at hσ; cases hσ
              · have q := hk.symm.trans hσ
                simp only [Option.some.injEq, Loc.row.injEq] at q
                obtain ⟨rfl, rfl, rfl, rfl⟩ := q
                have e1 : (hb - l).toNat = hb.toNat - l.toNat := by omega
                rw [e1]
                by_cases hcl : cap = l.toNat
                · simp only [hcl, if_true]
                  exact .slice id _ _ _ b' sz' es.length c' ad hσ (by omega) (by omega) (by omega) (by omega)
                · simp only [hcl, if_false, Option.map_some]
                  refine .slice id _ _ _ b' sz' es.length c' _ hσ (by omega) (by omega) (by omega) (fun _ => ?_)
                  rw [q4 (by omega), Addr.add_lit, Nat.add_mul]
          · cases h
        · cases h
      · cases h
    · rename_i sz' es hh hgh
      split at h
      · rename_i hb heq
        split at h
        · rename_i hc
          obtain ⟨rfl, h0, h1, h2⟩ := hc
          simp only [Option.some.injEq] at h; subst h
          have hhi' : hi.map a.eval = none ∧ hb = (es.length : Int) ∨ ∃ k, hi.map a.eval = some (.int k hb) := by
            rcases opt hhi with ⟨rfl, rfl⟩ | ⟨y, ay, rfl, rfl, hy⟩
            · simp at hgh; subst hgh; simp at heq; exact .inl ⟨rfl, heq.symm⟩
            · simp only [Option.map_eq_some_iff] at hgh
              obtain ⟨z, hz, rfl⟩ := hgh
              cases z <;> simp at heq
              subst heq
              exact .inr ⟨_, congrArg some (opd_sound hT hy hz).int_inv⟩
          have e1 : (hb - l).toNat = hb.toNat - l.toNat := by omega
          cases hv with
          | imm hv =>
            cases hv with
            | list0 ad cap sz =>
              have e2 : l = 0 := by simp at h2; omega
              have e3 : hb = 0 := by simp at h2; omega
              subst e2 e3
              have := run_slice (P := P) (w := w) (ad := ad) (len := 0) (cap := cap) ht hn hlo' hhi' h0 h1 (by omega)
              exact fin (by rw [hax]; exact this) (.imm (by simpa using RelI.list0 _ _ _))
            | list b o' sz cap _ f hb' hcap he hc' hr' =>
              have := run_slice (P := P) (w := w) (ad := some ⟨b, o', none⟩) (len := es.length) (cap := cap) ht hn hlo' hhi' h0 h1 (by omega)
              refine fin (by rw [hax]; exact this) (.imm ?_)
              rw [e1]
              by_cases hlh : hb.toNat - l.toNat = 0
              · rw [hlh, List.take_zero]; exact .list0 _ _ _
              · have hcl : cap ≠ l.toNat := by omega
                simp only [hcl, if_false, Option.map_some, Addr.add_lit]
                have hlen : ((es.drop l.toNat).take (hb.toNat - l.toNat)).length = hb.toNat - l.toNat := by simp; omega
                have key : RelI S w (.slice (some ⟨b, o' + l.toNat * sz', none⟩) ((es.drop l.toNat).take (hb.toNat - l.toNat)).length (cap - l.toNat)) (.list sz' ((es.drop l.toNat).take (hb.toNat - l.toNat))) := by
                  refine .list b _ sz' _ _ (fun i => f (l.toNat * sz' + i)) hb' (by omega) (fun e hm => he e (List.mem_of_mem_drop (List.mem_of_mem_take hm))) (fun i hi => ?_) (fun i c hc => ?_)
                  · rw [Nat.add_assoc]
                    refine hc' _ ?_
                    rw [hlen] at hi
                    have : l.toNat * sz' + (hb.toNat - l.toNat) * sz' ≤ es.length * sz' := by rw [← Nat.add_mul]; exact Nat.mul_le_mul_right _ (by omega)
                    omega
                  · rw [flat_take (fun e hm => he e (List.mem_of_mem_drop hm)), flat_drop he] at hc
                    have := List.getElem?_take (l := List.drop (l.toNat * sz') (flat es)) (i := (hb.toNat - l.toNat) * sz') (j := i)
                    rw [this] at hc
                    split at hc
                    · rw [List.getElem?_drop] at hc; exact hr' _ _ hc
                    · cases hc
                rw [hlen] at key
                exact key
        · cases h
      · cases h
    · cases h
  · cases h

end
end Go.Abs
