/-
  Steps of operations, third part: the others that only compute.
-/
import Derived.Test.YtfokmdhmaabegaaOps2
set_option linter.all false
namespace Go.Abs

section
variable {P : Program} {Own : Nat → Prop} {σ : Ids} {S : Nat → Prop} {w : World} {R : Nat → Option Row} {s : Nat} {T : Nat → Option AV} {a : Act} {o : Oper} {e : Eff}

/-- an operation that changes nothing -/
theorem fin_pure {sem : Sem Value} {u : Value} {y : AV} {rd : List Nat} (hR : RowsOk Own σ S w R) (he : execOp a.eval o = (do pure (.value (← sem)))) (h1 : sem.run P w = .ok u w)
    (h2 : RelV σ S w u y) : ∃ v w', OpRuns P a o w v w' ∧ Step Own σ S w R s ⟨y, [], rd⟩ v w' :=
  ⟨u, w, .inl (by rw [he]; simp [h1]), Step.read hR h2⟩

theorem mv_sound {x : Operand} {t : Option TypeId} {ao : AOpd} (hT : TmpsOk σ S w T a) (hR : RowsOk Own σ S w R) (ho : o.op = .move x ∨ o.op = .assign x) (hx : opd P t x = some ao)
    (call : CallF) (h : evalOp call s (getO T) R (.mv ao) = some e) : ∃ v w', OpRuns P a o w v w' ∧ Step Own σ S w R s e v w' := by
  simp only [evalOp] at h
  split at h
  · rename_i v hg
    simp at h; subst h
    exact ⟨a.eval x, w, .inl (by rcases ho with ho | ho <;> simp [execOp, ho]), Step.pure hR (opd_sound hT hx hg)⟩
  · cases h

theorem pick_sound {c x y : Operand} {t : Option TypeId} {ac ax ay : AOpd} (hT : TmpsOk σ S w T a) (hR : RowsOk Own σ S w R) (ho : o.op = .pick c x y) (hc : opd P none c = some ac)
    (hx : opd P t x = some ax) (hy : opd P t y = some ay) (call : CallF) (h : evalOp call s (getO T) R (.pick ac ax ay) = some e) :
    ∃ v w', OpRuns P a o w v w' ∧ Step Own σ S w R s e v w' := by
  simp only [evalOp] at h
  split at h
  · rename_i hg
    have hb := (opd_sound hT hc hg).bool_inv
    split at h
    · rename_i v hv
      simp at h; subst h
      exact ⟨a.eval x, w, .inl (by simp [execOp, ho, hb, asBool]), Step.pure hR (opd_sound hT hx hv)⟩
    · cases h
  · rename_i hg
    have hb := (opd_sound hT hc hg).bool_inv
    split at h
    · rename_i v hv
      simp at h; subst h
      exact ⟨a.eval y, w, .inl (by simp [execOp, ho, hb, asBool]), Step.pure hR (opd_sound hT hy hv)⟩
    · cases h
  · cases h

theorem nilCk_sound {x : Operand} {t : Option TypeId} {ax : AOpd} (hT : TmpsOk σ S w T a) (hR : RowsOk Own σ S w R) (ho : o.op = .nilCheck x) (hx : opd P t x = some ax)
    (call : CallF) (h : evalOp call s (getO T) R (.nilCk ax) = some e) : ∃ v w', OpRuns P a o w v w' ∧ Step Own σ S w R s e v w' := by
  simp only [evalOp] at h
  split at h
  · rename_i hg
    simp at h; subst h
    have hv := opd_sound hT hx hg
    refine ⟨a.eval x, w, .inl ?_, Step.pure hR hv⟩
    generalize hax : a.eval x = va at hv
    cases hv with
    | imm hv => cases hv
    | ptr => simp [execOp, ho, hax]
  · rename_i hg
    simp at h; subst h
    have hv := opd_sound hT hx hg
    refine ⟨a.eval x, w, .inl ?_, Step.pure hR hv⟩
    generalize hax : a.eval x = va at hv
    cases hv with
    | imm hv => cases hv; simp [execOp, ho, hax]
  · cases h

theorem bin_sound {op : BinOp} {t ty : TypeId} {t1 t2 : Option TypeId} {x y : Operand} {ax ay : AOpd} (hT : TmpsOk σ S w T a) (hR : RowsOk Own σ S w R) (ho : o.op = .binOp op t x y ty)
    (hx : opd P t1 x = some ax) (hy : opd P t2 y = some ay) (call : CallF) (h : evalOp call s (getO T) R (.bin op ax ay) = some e) : ∃ v w', OpRuns P a o w v w' ∧ Step Own σ S w R s e v w' := by
  simp only [evalOp] at h
  split at h
  · rename_i k m k' n hgx hgy
    split at h
    · rename_i v hb
      simp at h; subst h
      obtain ⟨u, h1, h2⟩ := binI_run (P := P) (S := S) (w := w) (t := t) (ox := x) (oy := y) hb
      refine fin_pure hR (sem := do eqGuard op t x y (a.eval x) (a.eval y); binOp op t (a.eval x) (a.eval y)) ?_ ?_ (.imm h2)
      · simp [execOp, ho]
      · rw [(opd_sound hT hx hgx).int_inv, (opd_sound hT hy hgy).int_inv]; exact h1
    · cases h
  · cases h

theorem un_sound {op : UnOp} {ty : TypeId} {t1 : Option TypeId} {x : Operand} {ax : AOpd} (hT : TmpsOk σ S w T a) (hR : RowsOk Own σ S w R) (ho : o.op = .unOp op ty x)
    (hx : opd P t1 x = some ax) (call : CallF) (h : evalOp call s (getO T) R (.un op ax) = some e) : ∃ v w', OpRuns P a o w v w' ∧ Step Own σ S w R s e v w' := by
  simp only [evalOp] at h
  split at h
  · rename_i k n hg
    simp at h; subst h
    refine fin_pure hR (sem := Op.unary .neg (a.eval x)) (by simp [execOp, ho]) (u := .int k (k.wrap (0 - n))) ?_ (.imm ?_)
    · rw [(opd_sound hT hx hg).int_inv]; simp [Op.unary, Op.intArith]
    · simpa using RelI.int k (k.wrap (0 - n))
  · rename_i b hg
    simp at h; subst h
    refine fin_pure hR (sem := Op.unary .not (a.eval x)) (by simp [execOp, ho]) (u := .bool (!b)) ?_ (.imm (.bool _))
    rw [(opd_sound hT hx hg).bool_inv]; simp [Op.unary]
  · cases h

theorem conv_sound {src dst : TypeId} {k k0 : IntKind} {t1 : Option TypeId} {x : Operand} {ax : AOpd} (hT : TmpsOk σ S w T a) (hR : RowsOk Own σ S w R) (ho : o.op = .convert src dst x)
    (hs : P.underlying src = some (.int k0)) (hd : P.underlying dst = some (.int k)) (hx : opd P t1 x = some ax) (call : CallF) (h : evalOp call s (getO T) R (.conv k ax) = some e) :
    ∃ v w', OpRuns P a o w v w' ∧ Step Own σ S w R s e v w' := by
  simp only [evalOp] at h
  split at h
  · rename_i k' n hg
    simp at h; subst h
    refine fin_pure hR (sem := convert src dst (a.eval x)) (by simp [execOp, ho]) (u := .int k (k.wrap n)) ?_ (.imm (.int _ _))
    rw [(opd_sound hT hx hg).int_inv]
    unfold convert
    rw [Sem.run_bind, run_underlying hs, Result.andThen_ok, Sem.run_bind, run_underlying hd, Result.andThen_ok]
    rfl
  · cases h

/-- several operands -/
theorem opds_sound {t : Option TypeId} {xs : List Operand} {as : List AOpd} {vs : List AV} (hT : TmpsOk σ S w T a) (hx : mapO (opd P t) xs = some as) (hg : mapO (getO T) as = some vs) :
    xs.length = vs.length ∧ ∀ (i : Nat) v c, (xs.map a.eval)[i]? = some v → vs[i]? = some c → RelV σ S w v c := by
  obtain ⟨h1, h2⟩ := mapO_spec hx
  obtain ⟨h3, h4⟩ := mapO_spec hg
  refine ⟨by omega, fun i v c hv hc => ?_⟩
  rw [List.getElem?_map] at hv
  simp only [Option.map_eq_some_iff] at hv
  obtain ⟨x, hx', rfl⟩ := hv
  have hi : i < as.length := by have := (List.getElem?_eq_some_iff.1 hc).1; omega
  exact opd_sound hT (h2 i x as[i] hx' (List.getElem?_eq_getElem hi)) (h4 i as[i] c (List.getElem?_eq_getElem hi) hc)

theorem fn_sound {f : Nat} {first captured : Array Operand} {as : List AOpd} (hT : TmpsOk σ S w T a) (hR : RowsOk Own σ S w R) (ho : o.op = .makeFunc (.func f) first captured)
    (hf : first.isEmpty = true) (hx : mapO (opd P none) captured.toList = some as) (call : CallF) (h : evalOp call s (getO T) R (.fn f as) = some e) :
    ∃ v w', OpRuns P a o w v w' ∧ Step Own σ S w R s e v w' := by
  simp only [evalOp] at h
  split at h
  · rename_i vs hg
    simp at h; subst h
    obtain ⟨h1, h2⟩ := opds_sound hT hx hg
    have hf' : first = #[] := by simpa using hf
    refine fin_pure hR (sem := Instr.makeFunc (.func f) (first.map a.eval) (captured.map a.eval)) (by simp [execOp, ho]) (u := .func (.func f) #[] (captured.map a.eval)) ?_ (.func f _ vs ?_ fun i v c hv hc => ?_)
    · simp [Instr.makeFunc, hf']
    · simpa using h1
    · refine h2 i v c ?_ hc
      have : captured.toList.map a.eval = (captured.map a.eval).toList := by simp
      rw [this, Array.getElem?_toList]; exact hv
  · cases h

theorem fieldA_sound {st : TypeId} {f off n : Nat} {fl : Field} {fields : Array Field} {t1 : Option TypeId} {x : Operand} {ax : AOpd} (hT : TmpsOk σ S w T a) (hR : RowsOk Own σ S w R)
    (ho : o.op = .fieldAddr st x f) (hs : P.underlying st = some (.struct fields)) (hf : fields[f]? = some fl) (hn : szOf P fl.type = some n) (hz : n ≠ 0) (hoff : fl.offset = off)
    (hx : opd P t1 x = some ax) (call : CallF) (h : evalOp call s (getO T) R (.fieldA off ax) = some e) : ∃ v w', OpRuns P a o w v w' ∧ Step Own σ S w R s e v w' := by
  simp only [szOf, Option.map_eq_some_iff] at hn
  obtain ⟨i, hi, rfl⟩ := hn
  have run : ∀ (b k : Nat), (Instr.fieldAt st (.pointer (some ⟨b, k, none⟩)) f).run P w = .ok (.pointer (some ⟨b, k + off, none⟩)) w := by
    intro b k
    unfold Instr.fieldAt
    rw [Sem.run_bind, run_underlying hs, Result.andThen_ok]
    simp [hf, Instr.sureAddr, fieldPlace, sizeOf, typeInfo, hi, hz, Addr.add_lit, hoff]
  simp only [evalOp] at h
  split at h
  · rename_i id idx k hg
    simp at h; subst h
    have hv := opd_sound hT hx hg
    generalize hax : a.eval x = va at hv
    cases hv with
    | imm hv => cases hv
    | ptr id idx k b sz n c hσ h1 =>
      refine fin_pure hR (sem := Instr.fieldAt st (a.eval x) f) (by simp [execOp, ho]) (by rw [hax]; exact run b _) ?_
      rw [Nat.add_assoc]
      exact .ptr id idx (k + off) b sz n c hσ h1
  · rename_i y k hg
    simp at h; subst h
    have hv := opd_sound hT hx hg
    generalize hax : a.eval x = va at hv
    cases hv with
    | imm hv =>
      cases hv with
      | iptr b o' k e f' hb he hc hr =>
        refine fin_pure hR (sem := Instr.fieldAt st (a.eval x) f) (by simp [execOp, ho]) (by rw [hax]; exact run b _) (.imm ?_)
        rw [Nat.add_assoc]
        exact .iptr b o' (k + off) _ f' hb he hc hr
  · cases h

/-- a part of a struct or an array that is a value -/
theorem run_part {t : TypeId} {n : Nat} {ag : Bool} {off : Nat} {cs : List AV} {v : AV} {vs : Array Value} (hn : szOf P t = some n) (ha : agOf P t = some ag) (h1 : ag = false → n = 1)
    (h : Abs.part ag off n cs = some v) (hl : vs.size = cs.length) (hr : ∀ (i : Nat) v c, vs[i]? = some v → cs[i]? = some c → RelV σ S w v c) :
    ∃ u, (Go.part t vs off).run P w = .ok u w ∧ RelV σ S w u v := by
  have hle : off + n ≤ cs.length := by
    unfold Abs.part at h
    split at h
    · assumption
    · cases h
  have hrel := part_rel (σ := σ) (S := S) (w := w) (f := fun i => vs.getD i undef) h h1 (fun i c hc => by
    have : i < vs.size := by have := (List.getElem?_eq_some_iff.1 hc).1; omega
    have e : vs.getD i undef = vs[i] := by simp [this]
    show RelV σ S w (vs.getD i undef) c
    rw [e]; exact hr i _ c (Array.getElem?_eq_getElem this) hc)
  refine ⟨_, ?_, hrel⟩
  simp only [szOf, Option.map_eq_some_iff] at hn
  obtain ⟨i, hi, rfl⟩ := hn
  simp only [agOf, Option.map_eq_some_iff] at ha
  obtain ⟨d, hd, rfl⟩ := ha
  have hagg : (isAgg t).run P w = .ok (isAggD d) w := by
    unfold isAgg
    rw [Sem.run_bind, run_underlying hd]
    cases d <;> rfl
  unfold Go.part
  rw [Sem.run_bind, hagg, Result.andThen_ok]
  cases hag : isAggD d with
  | true =>
    simp only [if_true, Sem.run_bind, sizeOf, typeInfo, run_program, Result.andThen_ok, hi, Sem.run_pure]
    congr 2
    apply Array.ext
    · simp; omega
    · intro j hj1 hj2
      simp at hj1 hj2
      have : off + j < vs.size := by omega
      simp [this]
  | false =>
    have h1' : i.size = 1 := h1 hag
    have : off < vs.size := by omega
    simp [this]

theorem field_sound {st : TypeId} {f off n : Nat} {ag : Bool} {fl : Field} {fields : Array Field} {t1 : Option TypeId} {x : Operand} {ax : AOpd} (hT : TmpsOk σ S w T a) (hR : RowsOk Own σ S w R)
    (ho : o.op = .field st x f) (hs : P.underlying st = some (.struct fields)) (hf : fields[f]? = some fl) (hn : szOf P fl.type = some n) (ha : agOf P fl.type = some ag) (h1 : ag = false → n = 1)
    (hoff : fl.offset = off) (hx : opd P t1 x = some ax) (call : CallF) (h : evalOp call s (getO T) R (.field off n ag ax) = some e) : ∃ v w', OpRuns P a o w v w' ∧ Step Own σ S w R s e v w' := by
  simp only [evalOp] at h
  split at h
  · rename_i cs hg
    split at h
    · rename_i v hp
      simp at h; subst h
      have hv := opd_sound hT hx hg
      generalize hax : a.eval x = va at hv
      have key : ∃ vs, va = .agg vs ∧ vs.size = cs.length ∧ ∀ (i : Nat) v c, vs[i]? = some v → cs[i]? = some c → RelV σ S w v c := by
        cases hv with
        | imm hv => cases hv with | agg vs _ hl hr => exact ⟨vs, rfl, hl, fun i v c h1 h2 => .imm (hr i v c h1 h2)⟩
        | agg vs _ hl hr => exact ⟨vs, rfl, hl, hr⟩
      obtain ⟨vs, rfl, hl, hr⟩ := key
      obtain ⟨u, r1, r2⟩ := run_part (P := P) hn ha h1 hp hl hr
      refine fin_pure hR (sem := Instr.field st (a.eval x) f) (by simp [execOp, ho]) ?_ r2
      rw [hax]
      unfold Instr.field
      rw [Sem.run_bind, run_underlying hs, Result.andThen_ok]
      simp [hf, asAgg, hoff, r1]
    · cases h
  · cases h

theorem index_sound {t el : TypeId} {len n : Nat} {ag : Bool} {t1 t2 : Option TypeId} {x i : Operand} {ax ai : AOpd} (hT : TmpsOk σ S w T a) (hR : RowsOk Own σ S w R)
    (ho : o.op = .index t x i) (ht : P.underlying t = some (.array len el)) (hn : szOf P el = some n) (ha : agOf P el = some ag) (h1 : ag = false → n = 1)
    (hx : opd P t1 x = some ax) (hi : opd P t2 i = some ai) (call : CallF) (h : evalOp call s (getO T) R (.index len n ag ax ai) = some e) : ∃ v w', OpRuns P a o w v w' ∧ Step Own σ S w R s e v w' := by
  simp only [evalOp] at h
  split at h
  · rename_i cs k m hg hgi
    split at h
    · rename_i hb
      split at h
      · rename_i v hp
        simp at h; subst h
        have hv := opd_sound hT hx hg
        generalize hax : a.eval x = va at hv
        have key : ∃ vs, va = .agg vs ∧ vs.size = cs.length ∧ ∀ (i : Nat) v c, vs[i]? = some v → cs[i]? = some c → RelV σ S w v c := by
          cases hv with
          | imm hv => cases hv with | agg vs _ hl hr => exact ⟨vs, rfl, hl, fun i v c h1 h2 => .imm (hr i v c h1 h2)⟩
          | agg vs _ hl hr => exact ⟨vs, rfl, hl, hr⟩
        obtain ⟨vs, rfl, hl, hr⟩ := key
        obtain ⟨u, r1, r2⟩ := run_part (P := P) hn ha h1 hp hl hr
        refine fin_pure hR (sem := Instr.index t (a.eval x) (a.eval i)) (by simp [execOp, ho]) ?_ r2
        rw [hax, (opd_sound hT hi hgi).int_inv]
        simp only [szOf, Option.map_eq_some_iff] at hn
        obtain ⟨inf, hinf, rfl⟩ := hn
        unfold Instr.index
        simp only [asIntOf, pure_bind]
        rw [Sem.run_bind, run_underlying ht, Result.andThen_ok]
        simp [hb, sizeOf, typeInfo, hinf, r1]
      · cases h
    · cases h
  · cases h

theorem indexA_sound {t el : TypeId} {n : Nat} {t1 t2 : Option TypeId} {x i : Operand} {ax ai : AOpd} (hT : TmpsOk σ S w T a) (hR : RowsOk Own σ S w R)
    (ho : o.op = .indexAddr t x i) (ht : P.underlying t = some (.slice el)) (hn : szOf P el = some n)
    (hx : opd P t1 x = some ax) (hi : opd P t2 i = some ai) (h : evIndexA (getO T) R n ax ai = some e) : ∃ v w', OpRuns P a o w v w' ∧ Step Own σ S w R s e v w' := by
  have run : ∀ {b off len cap : Nat} {k : IntKind} {m : Int}, 0 ≤ m → m < len → (Instr.indexAt t (.slice (some ⟨b, off, none⟩) len cap) (.int k m)).run P w = .ok (.pointer (some ⟨b, off + m.toNat * n, none⟩)) w := by
    intro b off len cap k m h0 h1
    simp only [szOf, Option.map_eq_some_iff] at hn
    obtain ⟨inf, hinf, rfl⟩ := hn
    unfold Instr.indexAt
    simp only [asIntOf, pure_bind]
    rw [Sem.run_bind, run_underlying ht, Result.andThen_ok]
    simp [run_underlying ht, h0, h1, sizeOf, typeInfo, hinf, Addr.add_lit]
  unfold evIndexA at h
  split at h
  · rename_i id off len k m hg hgi
    have hv := opd_sound hT hx hg
    generalize hax : a.eval x = va at hv
    split at h
    · rename_i sz' es hr
      split at h
      · rename_i hb
        obtain ⟨rfl, h0, h1⟩ := hb
        simp at h; subst h
        cases hv with
        | imm hv => cases hv
        | sliceV id ad hσ => simp at h1; omega
        | slice id off len cap b sz n' c ad hσ q1 q2 q3 q4 =>
          rcases hR.ok id _ hr with ⟨hk, _⟩ | ⟨b', c', cells, t', hk, hh', hs, hn', _, hp', hel, hf⟩
          · rw [hk] at hσ; cases hσ
          · have q := hk.symm.trans hσ
            simp only [Option.some.injEq, Loc.row.injEq] at q
            obtain ⟨rfl, rfl, rfl, rfl⟩ := q
            refine fin_pure hR (sem := Instr.indexAt t (a.eval x) (a.eval i)) (by simp [execOp, ho]) (by rw [hax, (opd_sound hT hi hgi).int_inv, q4 (by omega)]; exact run h0 h1) ?_
            have := RelV.ptr (S := S) (w := w) id (off + m.toNat) 0 b' sz' es.length c' hσ (by omega)
            rw [Nat.add_mul, Nat.add_zero] at this
            exact this
      · cases h
    · cases h
  · rename_i sz' es k m hg hgi
    have hv := opd_sound hT hx hg
    generalize hax : a.eval x = va at hv
    split at h
    · rename_i hb
      obtain ⟨rfl, h0⟩ := hb
      split at h
      · rename_i y hy
        simp at h; subst h
        have hlt : m.toNat < es.length := (List.getElem?_eq_some_iff.1 hy).1
        cases hv with
        | imm hv =>
          cases hv with
          | list0 ad cap sz => simp at hlt
          | list b o' sz cap _ f hb' hcap he hc' hr' =>
            have hee := he y (List.mem_of_getElem? hy)
            refine fin_pure hR (sem := Instr.indexAt t (a.eval x) (a.eval i)) (by simp [execOp, ho]) (by rw [hax, (opd_sound hT hi hgi).int_inv]; exact run h0 (by omega)) (.imm ?_)
            refine .iptr b (o' + m.toNat * sz') 0 y (fun i => f (m.toNat * sz' + i)) hb' hee.2 (fun i hi => ?_) (fun i c hc => ?_)
            · rw [Nat.add_assoc]
              refine hc' _ ?_
              rw [hee.1] at hi
              have : m.toNat * sz' + 1 * sz' ≤ es.length * sz' := by rw [← Nat.add_mul]; exact Nat.mul_le_mul_right _ (by omega)
              omega
            · refine hr' _ _ ?_
              have hi : i < sz' := by rw [← hee.1]; exact (List.getElem?_eq_some_iff.1 hc).1
              rw [flat_get he hy hi]; exact hc
      · cases h
    · cases h
  · cases h

theorem indexP_sound {t el : TypeId} {len n : Nat} {t1 t2 : Option TypeId} {x i : Operand} {ax ai : AOpd} (hT : TmpsOk σ S w T a) (hR : RowsOk Own σ S w R)
    (ho : o.op = .indexAddr t x i) (ht : P.underlying t = some (.array len el)) (hn : szOf P el = some n)
    (hx : opd P t1 x = some ax) (hi : opd P t2 i = some ai) (call : CallF) (h : evalOp call s (getO T) R (.indexP len n ax ai) = some e) : ∃ v w', OpRuns P a o w v w' ∧ Step Own σ S w R s e v w' := by
  have run : ∀ {b off : Nat} {k : IntKind} {m : Int}, 0 ≤ m → m < len → (Instr.indexAt t (.pointer (some ⟨b, off, none⟩)) (.int k m)).run P w = .ok (.pointer (some ⟨b, off + m.toNat * n, none⟩)) w := by
    intro b off k m h0 h1
    simp only [szOf, Option.map_eq_some_iff] at hn
    obtain ⟨inf, hinf, rfl⟩ := hn
    unfold Instr.indexAt
    simp only [asIntOf, pure_bind]
    rw [Sem.run_bind, run_underlying ht, Result.andThen_ok]
    simp [run_underlying ht, h0, h1, sizeOf, typeInfo, hinf, Addr.add_lit, Instr.sureAddr]
  simp only [evalOp] at h
  split at h
  · rename_i id idx off k m hg hgi
    have hv := opd_sound hT hx hg
    generalize hax : a.eval x = va at hv
    split at h
    · rename_i hb
      simp at h; subst h
      cases hv with
      | imm hv => cases hv
      | ptr id idx off b sz n' c hσ h1 =>
        refine fin_pure hR (sem := Instr.indexAt t (a.eval x) (a.eval i)) (by simp [execOp, ho]) (by rw [hax, (opd_sound hT hi hgi).int_inv]; exact run hb.1 hb.2) ?_
        rw [Nat.add_assoc]
        exact .ptr id idx _ b sz n' c hσ h1
    · cases h
  · rename_i y off k m hg hgi
    have hv := opd_sound hT hx hg
    generalize hax : a.eval x = va at hv
    split at h
    · rename_i hb
      simp at h; subst h
      cases hv with
      | imm hv =>
        cases hv with
        | iptr b o' off e f' hb' he hc hr =>
          refine fin_pure hR (sem := Instr.indexAt t (a.eval x) (a.eval i)) (by simp [execOp, ho]) (by rw [hax, (opd_sound hT hi hgi).int_inv]; exact run hb.1 hb.2) (.imm ?_)
          rw [Nat.add_assoc]
          exact .iptr b o' _ _ f' hb' he hc hr
    · cases h
  · cases h

theorem extract_sound {ix : Nat} {t1 : Option TypeId} {x : Operand} {ax : AOpd} (hT : TmpsOk σ S w T a) (hR : RowsOk Own σ S w R)
    (ho : o.op = .extract x ix) (hx : opd P t1 x = some ax) (call : CallF) (h : evalOp call s (getO T) R (.extract ax ix) = some e) : ∃ v w', OpRuns P a o w v w' ∧ Step Own σ S w R s e v w' := by
  simp only [evalOp] at h
  split at h
  · rename_i vs hg
    split at h
    · rename_i v hv'
      simp at h; subst h
      have hv := opd_sound hT hx hg
      generalize hax : a.eval x = va at hv
      cases hv with
      | imm hv => cases hv
      | tuple us _ hl hr =>
        have hlt : ix < us.size := by have := (List.getElem?_eq_some_iff.1 hv').1; omega
        refine fin_pure hR (sem := Instr.extract (a.eval x) ix) (by simp [execOp, ho]) (u := us[ix]) ?_ (hr ix _ v (Array.getElem?_eq_getElem hlt) hv')
        rw [hax]; simp [Instr.extract, hlt]
    · cases h
  · cases h

theorem len_sound {t el : TypeId} {t1 : Option TypeId} {x : Operand} {ax : AOpd} (hT : TmpsOk σ S w T a) (hR : RowsOk Own σ S w R)
    (ho : o.op = .call ⟨.builtin .len, #[x], #[t]⟩) (ht : P.underlying t = some (.slice el)) (hx : opd P t1 x = some ax) (call : CallF) (h : evalOp call s (getO T) R (.len ax) = some e) :
    ∃ v w', OpRuns P a o w v w' ∧ Step Own σ S w R s e v w' := by
  have run : ∀ {ad : Option Addr} {n cap : Nat}, a.eval x = .slice ad n cap → (execOp a.eval o).run P w = .ok (.value (.int .i64 n)) w := by
    intro ad n cap hax
    simp only [execOp, ho, resolve, invoke, builtin, pure_bind, Sem.run_bind, List.map_toArray, List.map_cons, List.map_nil, hax]
    unfold Builtin.len_
    simp [run_underlying ht, goInt]
  simp only [evalOp] at h
  split at h
  · rename_i id off n hg
    simp at h; subst h
    have hv := opd_sound hT hx hg
    generalize hax : a.eval x = va at hv
    cases hv with
    | imm hv => cases hv
    | sliceV => exact ⟨_, w, .inl (run hax), Step.pure hR (.imm (.int _ _))⟩
    | slice => exact ⟨_, w, .inl (run hax), Step.pure hR (.imm (.int _ _))⟩
  · rename_i sz es hg
    simp at h; subst h
    have hv := opd_sound hT hx hg
    generalize hax : a.eval x = va at hv
    cases hv with
    | imm hv =>
      cases hv with
      | list0 => exact ⟨_, w, .inl (run hax), Step.pure hR (.imm (.int _ _))⟩
      | list => exact ⟨_, w, .inl (run hax), Step.pure hR (.imm (.int _ _))⟩
  · rename_i sz hg
    simp at h; subst h
    have hv := opd_sound hT hx hg
    generalize hax : a.eval x = va at hv
    cases hv with
    | imm hv => cases hv; exact ⟨_, w, .inl (run hax), Step.pure hR (.imm (.int _ _))⟩
  · cases h

theorem opdsOf_spec : ∀ {xs : List Operand} {ts : List TypeId} {as : List AOpd}, opdsOf P xs ts = some as → as.length = xs.length ∧ ∀ (i : Nat) x y, xs[i]? = some x → as[i]? = some y → ∃ t, opd P t x = some y
  | [], [], as, h => by simp [opdsOf] at h; subst h; simp
  | x :: xs, t :: ts, as, h => by
    simp only [opdsOf] at h
    split at h
    · rename_i y r hy hr
      simp at h; subst h
      obtain ⟨h1, h2⟩ := opdsOf_spec hr
      refine ⟨by simp [h1], fun i a b ha hb => ?_⟩
      cases i with
      | zero => simp at ha hb; subst ha hb; exact ⟨_, hy⟩
      | succ i => simp at ha hb; exact h2 i a b ha hb
    · cases h
  | [], _ :: _, as, h => by simp [opdsOf] at h
  | _ :: _, [], as, h => by simp [opdsOf] at h

theorem minmax_sound {isMax : Bool} {xs : Array Operand} {ts : Array TypeId} {as : List AOpd} (hT : TmpsOk σ S w T a) (hR : RowsOk Own σ S w R)
    (ho : o.op = .call ⟨.builtin (if isMax then .max else .min), xs, ts⟩) (hx : opdsOf P xs.toList ts.toList = some as) (call : CallF) (h : evalOp call s (getO T) R (.minmax isMax as) = some e) :
    ∃ v w', OpRuns P a o w v w' ∧ Step Own σ S w R s e v w' := by
  simp only [evalOp] at h
  split at h
  · rename_i n ns hg
    simp at h; subst h
    obtain ⟨h1, h2⟩ := mapO_spec hg
    obtain ⟨h3, h4⟩ := opdsOf_spec hx
    have hev : xs.toList.map a.eval = (n :: ns).map fun n => Value.int .i64 n := by
      apply List.ext_getElem?
      intro i
      by_cases hi : i < xs.toList.length
      · have hia : i < as.length := by omega
        have hin : i < (n :: ns).length := by omega
        obtain ⟨t, ht⟩ := h4 i _ _ (List.getElem?_eq_getElem hi) (List.getElem?_eq_getElem hia)
        have := h2 i _ _ (List.getElem?_eq_getElem hia) (List.getElem?_eq_getElem hin)
        unfold i64Of at this
        split at this
        · rename_i m hm
          simp only [Option.some.injEq] at this
          have hv := (opd_sound hT ht hm).int_inv
          rw [List.getElem?_map, List.getElem?_map, List.getElem?_eq_getElem hi, List.getElem?_eq_getElem hin]
          simp only [Option.map_some, hv, this]
        · cases this
      · rw [List.getElem?_eq_none (by simp at hi ⊢; omega), List.getElem?_eq_none (by simp at hi h1 h3 ⊢; omega)]
    have hf : ∀ (l : List Int) (m : Int), ((l.map fun n => Value.int .i64 n).foldlM (if isMax then Builtin.max2 else Builtin.min2) (Value.int .i64 m) : Sem Value).run P w = .ok (.int .i64 (l.foldl (maxOf isMax) m)) w := by
      intro l
      induction l with
      | nil => intro m; simp
      | cons y l ih =>
        intro m
        simp only [List.map_cons, List.foldlM_cons, Sem.run_bind, List.foldl_cons]
        cases isMax with
        | true =>
          simp only [if_true, Builtin.max2, Sem.run_pure, Result.andThen_ok] at ih ⊢
          exact ih _
        | false =>
          simp only [Bool.false_eq_true, if_false, Builtin.min2, Sem.run_pure, Result.andThen_ok] at ih ⊢
          exact ih _
    refine ⟨.int .i64 (ns.foldl (maxOf isMax) n), w, .inl ?_, Step.pure hR (.imm (.int _ _))⟩
    have hm : (xs.map a.eval).toList = (Value.int .i64 n) :: ns.map fun n => Value.int .i64 n := by simpa using hev
    have := hf ns n
    cases isMax with
    | true =>
      simp only [if_true] at ho this
      simp only [execOp, ho, resolve, invoke, builtin, pure_bind, Sem.run_bind]
      simp only [Builtin.max_, hm]
      simp [this]
    | false =>
      simp only [Bool.false_eq_true, if_false] at ho this
      simp only [execOp, ho, resolve, invoke, builtin, pure_bind, Sem.run_bind]
      simp only [Builtin.min_, hm]
      simp [this]
  · cases h

end
end Go.Abs
