/-
  Regions: in the order of the text, and in every order that the edges allow.
-/
import Derived.Test.YtfokmdhmaabegaaLocal
set_option linter.all false
namespace Go.Abs

theorem mapO_congr {α β : Type} {f g : α → Option β} : ∀ {l : List α}, (∀ x ∈ l, f x = g x) → mapO f l = mapO g l
  | [], _ => rfl
  | x :: l, h => by
    simp only [mapO]
    rw [h x (by simp), mapO_congr fun y hy => h y (List.mem_cons_of_mem _ hy)]

section
variable {R R' : Nat → Option Row} {T T' : Nat → Option AV}

theorem getO_congr {x : AOpd} (h : ∀ t ∈ x.temps, T' t = T t) : getO T' x = getO T x := by
  cases x with
  | tmp t => exact h t (by simp [AOpd.temps])
  | lit v => rfl

theorem evalOp_congr {call : CallF} {s : Nat} {op : AOp} (h : ∀ t ∈ op.temps, T' t = T t) : evalOp call s (getO T') R op = evalOp call s (getO T) R op := by
  cases op
  case build z ps =>
    simp only [evalOp]
    rw [mapO_congr (g := bdPart (getO T)) fun p hp => by
      unfold bdPart
      rw [getO_congr fun t ht => h t (by simp only [AOp.temps, List.mem_flatMap]; exact ⟨p, hp, ht⟩)]]
  case mkList sz z len ps =>
    simp only [evalOp, evMkList]
    rw [mapO_congr (g := mkPart (getO T) R) fun p hp => by
      unfold mkPart
      rw [getO_congr fun t ht => h t (by simp only [AOp.temps, List.mem_flatMap]; exact ⟨p, hp, ht⟩)]]
  case fn f xs =>
    simp only [evalOp]
    rw [mapO_congr (g := getO T) fun p hp => getO_congr fun t ht => h t (by simp only [AOp.temps, List.mem_flatMap]; exact ⟨p, hp, ht⟩)]
  case minmax b xs =>
    simp only [evalOp]
    rw [mapO_congr (g := i64Of (getO T)) fun p hp => by
      unfold i64Of
      rw [getO_congr fun t ht => h t (by simp only [AOp.temps, List.mem_flatMap]; exact ⟨p, hp, ht⟩)]]
  case call f xs bor =>
    simp only [evalOp, evCall]
    rw [getO_congr (x := f) fun t ht => h t (by simp [AOp.temps, ht]),
      mapO_congr (g := getO T) fun p hp => getO_congr fun t ht => h t (by simp only [AOp.temps, List.mem_append, List.mem_flatMap]; exact .inr ⟨p, hp, ht⟩)]
  case slice sz x lo hi =>
    have hx := getO_congr (x := x) fun t ht => h t (by simp [AOp.temps, ht])
    have hlo : ∀ y, lo = some y → getO T' y = getO T y := fun y hy => getO_congr fun t ht => h t (by simp [AOp.temps, hy, optTemps, ht])
    have hhi : ∀ y, hi = some y → getO T' y = getO T y := fun y hy => getO_congr fun t ht => h t (by simp [AOp.temps, hy, optTemps, ht])
    simp only [evalOp, evSlice]
    rw [hx]
    cases lo with
    | none => cases hi with
      | none => rfl
      | some y => simp only [hhi y rfl]
    | some z => cases hi with
      | none => simp only [hlo z rfl]
      | some y => simp only [hlo z rfl, hhi y rfl]
  case mapSet k x y z =>
    simp only [evalOp, evMapSet]
    rw [getO_congr (x := x) fun t ht => h t (by simp [AOp.temps, ht]), getO_congr (x := y) fun t ht => h t (by simp [AOp.temps, ht]), getO_congr (x := z) fun t ht => h t (by simp [AOp.temps, ht])]
  case pick c x y =>
    simp only [evalOp]
    rw [getO_congr (x := c) fun t ht => h t (by simp [AOp.temps, ht]), getO_congr (x := x) fun t ht => h t (by simp [AOp.temps, ht]), getO_congr (x := y) fun t ht => h t (by simp [AOp.temps, ht])]
  case alloc => rfl
  case mkMap => rfl
  case load n ag x => simp only [evalOp, evLoad]; rw [getO_congr (x := x) fun t ht => h t (by simp [AOp.temps, ht])]
  case store n x y => simp only [evalOp, evStore]; rw [getO_congr (x := x) fun t ht => h t (by simp [AOp.temps, ht]), getO_congr (x := y) fun t ht => h t (by simp [AOp.temps, ht])]
  case indexA n x y => simp only [evalOp, evIndexA]; rw [getO_congr (x := x) fun t ht => h t (by simp [AOp.temps, ht]), getO_congr (x := y) fun t ht => h t (by simp [AOp.temps, ht])]
  case append n x y => simp only [evalOp, evAppend]; rw [getO_congr (x := x) fun t ht => h t (by simp [AOp.temps, ht]), getO_congr (x := y) fun t ht => h t (by simp [AOp.temps, ht])]
  case mapGet k z ok x y => simp only [evalOp, evMapGet]; rw [getO_congr (x := x) fun t ht => h t (by simp [AOp.temps, ht]), getO_congr (x := y) fun t ht => h t (by simp [AOp.temps, ht])]
  case bin op x y => simp only [evalOp]; rw [getO_congr (x := x) fun t ht => h t (by simp [AOp.temps, ht]), getO_congr (x := y) fun t ht => h t (by simp [AOp.temps, ht])]
  case eq n ks x y => simp only [evalOp]; rw [getO_congr (x := x) fun t ht => h t (by simp [AOp.temps, ht]), getO_congr (x := y) fun t ht => h t (by simp [AOp.temps, ht])]
  case mkSlice n z x y => simp only [evalOp]; rw [getO_congr (x := x) fun t ht => h t (by simp [AOp.temps, ht]), getO_congr (x := y) fun t ht => h t (by simp [AOp.temps, ht])]
  case indexP n z x y => simp only [evalOp]; rw [getO_congr (x := x) fun t ht => h t (by simp [AOp.temps, ht]), getO_congr (x := y) fun t ht => h t (by simp [AOp.temps, ht])]
  case index n z ag x y => simp only [evalOp]; rw [getO_congr (x := x) fun t ht => h t (by simp [AOp.temps, ht]), getO_congr (x := y) fun t ht => h t (by simp [AOp.temps, ht])]
  case mv x => simp only [evalOp]; rw [getO_congr (x := x) fun t ht => h t (by simp [AOp.temps, ht])]
  case box x => simp only [evalOp]; rw [getO_congr (x := x) fun t ht => h t (by simp [AOp.temps, ht])]
  case nilCk x => simp only [evalOp]; rw [getO_congr (x := x) fun t ht => h t (by simp [AOp.temps, ht])]
  case un op x => simp only [evalOp]; rw [getO_congr (x := x) fun t ht => h t (by simp [AOp.temps, ht])]
  case conv k x => simp only [evalOp]; rw [getO_congr (x := x) fun t ht => h t (by simp [AOp.temps, ht])]
  case fieldA n x => simp only [evalOp]; rw [getO_congr (x := x) fun t ht => h t (by simp [AOp.temps, ht])]
  case field n m ag x => simp only [evalOp]; rw [getO_congr (x := x) fun t ht => h t (by simp [AOp.temps, ht])]
  case extract x n => simp only [evalOp]; rw [getO_congr (x := x) fun t ht => h t (by simp [AOp.temps, ht])]
  case len x => simp only [evalOp]; rw [getO_congr (x := x) fun t ht => h t (by simp [AOp.temps, ht])]

/-- an operation sees its temporaries and the rows that it lists, nothing else -/
theorem stepOp_local {call : CallF} {s : Nat} {o : AOper} {e : Eff} (h : stepOp call s o T R = some e) (hT : ∀ t ∈ o.temps, T' t = T t) (hR : ∀ i ∈ e.rd, R' i = R i) : stepOp call s o T' R' = some e := by
  have h1 : ∀ t ∈ o.op.temps, T' t = T t := fun t ht => hT t (by simp [AOper.temps, ht])
  unfold stepOp at h ⊢
  split at h
  · rw [evalOp_congr h1]; exact evalOp_local h hR
  · rename_i t b hg
    have h2 : T' t = T t := hT t (by simp [AOper.temps, hg])
    rw [h2]
    split at h
    · split at h
      · rename_i hc
        rw [if_pos hc, evalOp_congr h1]; exact evalOp_local h hR
      · rename_i hc
        rw [if_neg hc]; exact h
    · exact h
    · cases h

end

/-! ## The state -/

/-- the frame and the machine's state -/
structure Sim (Own : Nat → Prop) (LL : List (Nat × Loc)) (nt : Nat) (σ : Ids) (S : Nat → Prop) (w : World) (T : Nat → Option AV) (R : Nat → Option Row) (a : Act) : Prop where
  tmps : TmpsOk σ S w T a
  rows : RowsOk Own σ S w R
  size : a.tmps.size = nt
  nodefer : a.defers = []
  own : ∀ b, w.heap.size ≤ b → Own b
  lent : ∀ p ∈ LL, σ p.1 = some p.2

def updT (T : Nat → Option AV) (dst : Option Nat) (v : AV) : Nat → Option AV := fun t => if dst = some t then some v else T t

theorem lk_putT (dst : Option Nat) (v : AV) (tm : List (Nat × AV)) (t : Nat) : lk t (putT dst v tm) = updT (fun t => lk t tm) dst v t := by
  cases dst with
  | none => simp [putT, updT]
  | some d =>
    simp only [putT, lk, updT]
    by_cases h : d = t <;> simp [h]

section
variable {P : Program} {Own : Nat → Prop} {LL : List (Nat × Loc)} {nt : Nat} {σ : Ids} {S : Nat → Prop} {w : World} {R : Nat → Option Row} {T : Nat → Option AV} {a : Act} {s : Nat}

theorem Sim.step {e : Eff} {v : Value} {w' : World} {dst : Option Nat} (h : Sim Own LL nt σ S w T R a) (hs : Step Own σ S w R s e v w') (hd : ∀ d, dst = some d → d < nt) :
    ∃ σ' S', Sim Own LL nt σ' S' w' (updT T dst e.v) (updR e.wr R) (a.put dst v) ∧ Ext Own σ S w σ' S' w' ∧ ∀ id, id < s ∨ s + siteWidth ≤ id → σ' id = σ id := by
  obtain ⟨σ', S', h1, h2, h3, h4⟩ := hs
  refine ⟨σ', S', ⟨fun t x hx => ?_, h2, ?_, ?_, fun b hb => h.own b (Nat.le_trans h3.same.size hb), fun p hp => h3.ids _ _ (h.lent p hp)⟩, h3, h4⟩
  · unfold updT at hx
    split at hx
    · rename_i hdt
      simp only [Option.some.injEq] at hx
      subst hx hdt
      have hlt := hd t rfl
      have : (a.put (some t) v).tmps.getD t undef = v := by
        have hsz := h.size
        simp [Act.put, show t < a.tmps.size by omega]
      rw [this]; exact h1
    · rename_i hdt
      have hold := (h.tmps t x hx).ext h3
      have : (a.put dst v).tmps.getD t undef = a.tmps.getD t undef := by
        cases dst with
        | none => rfl
        | some d =>
          have hne : d ≠ t := fun e => hdt (by rw [e])
          simp [Act.put, Array.getD_eq_getD_getElem?, Array.getElem?_setIfInBounds_ne hne]
      rw [this]; exact hold
  · cases dst <;> simp [Act.put, h.size]
  · cases dst <;> simp [Act.put, h.nodefer]

/-- one operation of a region -/
theorem oper_step {bor : Nat → List Nat} {ops : Array Oper} {i : Nat} {o : Oper} {ao : AOper} {call : CallF} {e : Eff} {K : Act → World → Prop} {Q : Exit → Act → World → Prop}
    (hsim : Sim Own LL nt σ S w T R a) (hF : ∀ id, s ≤ id → id < s + siteWidth → σ id = none) (hi : ops[i]? = some o) (hc : compOper P bor ops o = some ao) (he : stepOp call s ao T R = some e)
    (hcall : ∀ f vs r, call f vs = some r → CallOk P f vs r.1 r.2 ∧ Enterable P f) (hK : ∀ v w', Step Own σ S w R s e v w' → K (a.put o.dst v) w') :
    wpOp P ops Q i K a w ∧ ao.dst = o.dst := by
  have hFree : Free Own σ w s := ⟨hF, hsim.own⟩
  have hund : RelV σ S w undef (.tuple []) := .tuple #[] [] rfl (by simp)
  unfold compOper at hc
  split at hc
  · cases hc
  · rename_i aop haop
    unfold wpOp
    simp only [hi]
    split at hc
    · rename_i hg
      simp at hc; subst hc
      refine ⟨?_, rfl⟩
      have hw : Region.wanted o (yielded ops a.tmps) = true := by simp [Region.wanted, hg]
      simp only [hw, if_true]
      exact .inl (op_sound hsim.tmps hsim.rows hFree haop he hcall hK)
    · rename_i j b hg
      split at hc
      · rename_i d hd
        simp at hc; subst hc
        refine ⟨?_, rfl⟩
        have hy : yielded ops a.tmps j = match a.tmps[d]? with | some (.bool b) => some b | _ => none := by
          unfold yielded; rw [hd]; rfl
        simp only [stepOp] at he
        split at he
        · rename_i c hTd
          have hval := (hsim.tmps d _ hTd).bool_inv
          have hy' : yielded ops a.tmps j = some c := by
            rw [hy]
            rw [Array.getD_eq_getD_getElem?] at hval
            cases hq : a.tmps[d]? with
            | none => rw [hq] at hval; cases hval
            | some u => rw [hq] at hval; simp at hval; subst hval; rfl
          split at he
          · rename_i hcb
            subst hcb
            have hw : Region.wanted o (yielded ops a.tmps) = true := by simp [Region.wanted, hg, hy']
            simp only [hw, if_true]
            exact .inl (op_sound hsim.tmps hsim.rows hFree haop he hcall hK)
          · rename_i hcb
            simp only [Option.some.injEq] at he; subst he
            have hw : Region.wanted o (yielded ops a.tmps) = false := by simp [Region.wanted, hg, hy', hcb]
            simp only [hw, Bool.false_eq_true, if_false]
            exact hK undef w (Step.pure hsim.rows hund)
        · rename_i hTd
          simp only [Option.some.injEq] at he; subst he
          have hval := hsim.tmps d _ hTd
          have hval' : a.tmps.getD d undef = .tuple #[] := by
            generalize a.tmps.getD d undef = u at hval
            cases hval with
            | imm hv => cases hv
            | tuple vs _ hl _ => simp at hl; subst hl; rfl
          have hy' : yielded ops a.tmps j = none := by
            rw [hy]
            rw [Array.getD_eq_getD_getElem?] at hval'
            cases hq : a.tmps[d]? with
            | none => rfl
            | some u => rw [hq] at hval'; simp at hval'; subst hval'; rfl
          have hw : Region.wanted o (yielded ops a.tmps) = false := by simp [Region.wanted, hg, hy']
          simp only [hw, Bool.false_eq_true, if_false]
          exact hK undef w (Step.pure hsim.rows hund)
        · cases he
      · cases hc

end
end Go.Abs
