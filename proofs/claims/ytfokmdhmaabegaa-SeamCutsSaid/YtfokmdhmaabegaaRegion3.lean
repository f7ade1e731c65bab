/-
  Regions, third part: every order.
-/
import Derived.Test.YtfokmdhmaabegaaRegion2
set_option linter.all false
namespace Go.Abs

/-- from one state to another, numbers aside -/
structure ExtW (Own : Nat → Prop) (S : Nat → Prop) (w : World) (S' : Nat → Prop) (w' : World) : Prop where
  imm : ∀ b, S b → S' b
  keep : ∀ b, S b → w'.heap[b]? = w.heap[b]?
  frame : ∀ b, ¬ Own b → w'.heap[b]? = w.heap[b]?
  same : Same w w'
  bound : ∀ b, S' b → S b ∨ Own b

theorem ExtW.refl (Own : Nat → Prop) (S : Nat → Prop) (w : World) : ExtW Own S w S w := ⟨fun _ h => h, fun _ _ => rfl, fun _ _ => rfl, Same.refl w, fun _ h => .inl h⟩

theorem ExtW.trans {Own : Nat → Prop} {S S' S'' : Nat → Prop} {w w' w'' : World} (h : ExtW Own S w S' w') (h' : ExtW Own S' w' S'' w'') : ExtW Own S w S'' w'' :=
  ⟨fun b hb => h'.imm b (h.imm b hb), fun b hb => (h'.keep b (h.imm b hb)).trans (h.keep b hb), fun b hb => (h'.frame b hb).trans (h.frame b hb), h.same.trans h'.same, fun b hb => (h'.bound b hb).elim (h.bound b) .inr⟩

theorem Ext.w {Own : Nat → Prop} {σ σ' : Ids} {S S' : Nat → Prop} {w w' : World} (h : Ext Own σ S w σ' S' w') : ExtW Own S w S' w' := ⟨h.imm, h.keep, h.frame, h.same, h.bound⟩

section
variable {P : Program} {Own : Nat → Prop} {LL : List (Nat × Loc)} {nt : Nat} {S0 : Nat → Prop} {w0 : World}

theorem Sim.congr {σ : Ids} {S : Nat → Prop} {w : World} {T T' : Nat → Option AV} {R R' : Nat → Option Row} {a : Act} (h : Sim Own LL nt σ S w T R a) (hT : ∀ t, T' t = T t) (hR : ∀ i, R' i = R i) : Sim Own LL nt σ S w T' R' a := by
  have e1 : T' = T := funext hT
  have e2 : R' = R := funext hR
  rw [e1, e2]; exact h

/-- in the order of the text -/
theorem text_sound {bor : Nat → List Nat} {ops : Array Oper} {call : CallF} {base : Nat} {Q : Exit → Act → World → Prop} (hcall : ∀ f vs r, call f vs = some r → CallOk P f vs r.1 r.2 ∧ Enterable P f) (hdst : dstOk nt ops = true)
    {tm' : List (Nat × AV)} {rows' : List (Nat × Row)}
    (hQ : ∀ σ S w a, Sim Own LL nt σ S w (fun t => lk t tm') (fun i => lk i rows') a → ExtW Own S0 w0 S w → (∀ id, base + siteWidth * ops.size ≤ id → σ id = none) → Q .normal a w) :
    ∀ {os : List AOper} {l : List Oper} {k : Nat} {bef : List (List Nat)} {acc : List Foot} {tm : List (Nat × AV)} {rows : List (Nat × Row)} {σ : Ids} {S : Nat → Prop} {w : World} {a : Act},
      runOps call base false k os bef acc tm rows = some (tm', rows') → ops.toList.drop k = l → mapO (compOper P bor ops) l = some os → k + l.length = ops.size →
      Sim Own LL nt σ S w (fun t => lk t tm) (fun i => lk i rows) a → ExtW Own S0 w0 S w → (∀ id, base + siteWidth * k ≤ id → σ id = none) → wpOps P ops Q (List.range' k l.length) a w
  | os, [], k, bef, acc, tm, rows, σ, S, w, a, h, hl, hc, hk, hsim, hext, hfr => by
    simp [mapO] at hc; subst hc
    simp [runOps] at h
    obtain ⟨rfl, rfl⟩ := h
    simp only [List.length_nil, List.range'_zero, wpOps]
    simp at hk
    exact hQ σ S w a hsim hext (by rw [← hk]; exact hfr)
  | os, o :: l, k, bef, acc, tm, rows, σ, S, w, a, h, hl, hc, hk, hsim, hext, hfr => by
    simp only [mapO] at hc
    split at hc
    · cases hc
    · rename_i ao hao
      split at hc
      · cases hc
      · rename_i os' hos
        simp at hc; subst hc
        simp only [runOps] at h
        split at h
        · cases h
        · rename_i e he
          simp only [Bool.false_eq_true, if_false] at h
          simp only [List.length_cons, List.range'_succ]
          rw [wpOps_cons]
          have hok : ops[k]? = some o := by
            rw [← Array.getElem?_toList]
            have : (ops.toList.drop k)[0]? = some o := by rw [hl]; rfl
            simpa using this
          have hdrop : ops.toList.drop (k + 1) = l := by
            have : (ops.toList.drop k).drop 1 = l := by rw [hl]; rfl
            rw [List.drop_drop] at this
            exact this
          have hdd : ∀ d, o.dst = some d → d < nt := by
            intro d hd
            have := Array.all_eq_true_iff_forall_mem.1 hdst o (Array.mem_of_getElem? hok)
            simp only [hd] at this
            simpa using this
          have hw32 : siteWidth = 32 := rfl
          have key := oper_step (P := P) (Q := Q) (K := wpOps P ops Q (List.range' (k + 1) l.length)) hsim (s := base + siteWidth * k) (fun id h1 _ => hfr id h1) hok hao he hcall (fun v w' hs => by
            obtain ⟨σ', S', hsim', hext', hout⟩ := hsim.step hs (dst := o.dst) hdd
            refine text_sound hcall hdst hQ h hdrop hos (by simp at hk; omega) (hsim'.congr (fun t => ?_) (fun i => ?_)) (hext.trans hext'.w) (fun id hid => ?_)
            · have hd2 : ao.dst = o.dst := by
                unfold compOper at hao
                split at hao
                · cases hao
                · split at hao
                  · simp at hao; rw [← hao]
                  · split at hao
                    · simp at hao; rw [← hao]
                    · cases hao
              rw [lk_putT, hd2]
            · exact lk_updRows ..
            · rw [hout id (.inr (by rw [Nat.mul_add] at hid; omega))]
              exact hfr id (by rw [Nat.mul_add] at hid; omega))
          exact key.1

theorem compOper_dst {bor : Nat → List Nat} {ops : Array Oper} {o : Oper} {ao : AOper} (h : compOper P bor ops o = some ao) : ao.dst = o.dst := by
  unfold compOper at h
  split at h
  · cases h
  · split at h
    · simp at h; rw [← h]
    · split at h
      · simp at h; rw [← h]
      · cases h

theorem disj_mem {a b : List Nat} (h : disj a b = true) {x : Nat} (ha : x ∈ a) : x ∉ b := by
  have := List.all_eq_true.1 h x ha
  simpa using this

/-- in every order -/
theorem draw_sound {bor : Nat → List Nat} {ops : Array Oper} {as : List AOper} {es : List Eff} {call : CallF} {base : Nat} {bef : List (List Nat)} {Q : Exit → Act → World → Prop} {T0 : Nat → Option AV} {R0 : Nat → Option Row}
    (hcall : ∀ f vs r, call f vs = some r → CallOk P f vs r.1 r.2 ∧ Enterable P f) (hdst : dstOk nt ops = true) (hcomp : mapO (compOper P bor ops) ops.toList = some as) (hdraw : drawOk ops as bef = true)
    (hlen : es.length = as.length)
    (hstep : ∀ (j : Nat) o e, as[j]? = some o → es[j]? = some e → stepOp call (base + siteWidth * j) o (foldG (fun i => decide (i < j)) T0 0 (zipT as es)) (foldG (fun i => decide (i < j)) R0 0 (es.map (·.wr))) = some e)
    (hfoot : ∀ (j j' : Nat) e e', j < j' → es[j]? = some e → es[j']? = some e' → (bef.getD j' []).contains j = true ∨ (foot j e).apart (foot j' e') = true)
    (hQ : ∀ σ S w a, Sim Own LL nt σ S w (foldG (fun _ => true) T0 0 (zipT as es)) (foldG (fun _ => true) R0 0 (es.map (·.wr))) a → ExtW Own S0 w0 S w → (∀ id, base + siteWidth * ops.size ≤ id → σ id = none) → Q .normal a w) :
    ∀ (fuel : Nat) (listed : Array Bool) (σ : Ids) (S : Nat → Prop) (w : World) (a : Act), listed.size = ops.size → listed.toList.count true + fuel = ops.size →
      (∀ i, listed.getD i false = true → ∀ j ∈ bef.getD i [], listed.getD j false = true) →
      Sim Own LL nt σ S w (foldG (fun i => listed.getD i false) T0 0 (zipT as es)) (foldG (fun i => listed.getD i false) R0 0 (es.map (·.wr))) a → ExtW Own S0 w0 S w →
      (∀ i, i < ops.size → listed.getD i false = false → ∀ id, base + siteWidth * i ≤ id → id < base + siteWidth * i + siteWidth → σ id = none) → (∀ id, base + siteWidth * ops.size ≤ id → σ id = none) →
      wpAny P .any ops Q fuel listed a w := by
  obtain ⟨cl, cs⟩ := mapO_spec hcomp
  have hasz : as.length = ops.size := by simpa using cl
  simp only [drawOk, Bool.and_eq_true, decide_eq_true_eq] at hdraw
  obtain ⟨⟨hedge, hpairs⟩, hbl⟩ := hdraw
  have edge : ∀ (j : Nat) o, ops[j]? = some o → befOk bef j o = true ∧ edgesOk j o = true := by
    intro j o ho
    have hm : (o, j) ∈ ops.toList.zipIdx := by
      rw [List.mk_mem_zipIdx_iff_getElem?, Array.getElem?_toList]; exact ho
    have := List.all_eq_true.1 hedge (o, j) hm
    simpa using this
  have pair : ∀ (i j : Nat) x y, i < j → as[i]? = some x → as[j]? = some y → (bef.getD j []).contains i = true ∨ x.apart y = true := by
    intro i j x y hij hx hy
    have hm : (y, j) ∈ as.zipIdx := by rw [List.mk_mem_zipIdx_iff_getElem?]; exact hy
    have h1 := List.all_eq_true.1 hpairs (y, j) hm
    have hm2 : (x, i) ∈ (as.take j).zipIdx := by
      rw [List.mk_mem_zipIdx_iff_getElem?, List.getElem?_take, if_pos hij]; exact hx
    have h2 := List.all_eq_true.1 h1 (x, i) hm2
    simpa using h2
  have getD_bool : ∀ (l : Array Bool) (i : Nat) (d : Bool), i < l.size → l.getD i d = l.getD i false := by
    intro l i d h
    simp [h]
  intro fuel
  induction fuel with
  | zero =>
    intro listed σ S w a hsz hcount hdown hsim hext hfr hfr2
    have hall : ∀ i, i < ops.size → listed.getD i false = true := by
      intro i hi
      have hc : listed.toList.count true = listed.toList.length := by rw [Array.length_toList]; omega
      have := List.count_eq_length.1 hc listed[i] (by simp)
      simp [show i < listed.size by omega, ← this]
    refine wpAny_done (md := .any) ?_ ?_ 0
    · rw [List.eq_nil_iff_forall_not_mem]
      intro i hi
      obtain ⟨h1, o, ho, _⟩ := mem_ready.1 hi
      have hlt : i < ops.size := (Array.getElem?_eq_some_iff.1 ho).1
      rw [getD_bool listed i true (by omega), hall i hlt] at h1
      cases h1
    · refine hQ σ S w a (hsim.congr (fun t => ?_) (fun i => ?_)) hext hfr2
      · refine foldG_agree rfl fun j ws hw hne => absurd ?_ hne
        have : j < (zipT as es).length := (List.getElem?_eq_some_iff.1 hw).1
        rw [zipT_length hlen] at this
        simp [hall j (by omega)]
      · refine foldG_agree rfl fun j ws hw hne => absurd ?_ hne
        have : j < (es.map (·.wr)).length := (List.getElem?_eq_some_iff.1 hw).1
        simp at this
        simp [hall j (by omega)]
  | succ fuel ih =>
    intro listed σ S w a hsz hcount hdown hsim hext hfr hfr2
    refine ⟨fun hready => ?_, fun i hi => ?_⟩
    · -- nothing is ready: all are listed
      have hall : ∀ n i, i < n → i < ops.size → listed.getD i false = true := by
        intro n
        induction n with
        | zero => intro i h; omega
        | succ n ihn =>
          intro i hin hi
          cases hl : listed.getD i false with
          | true => rfl
          | false =>
            exfalso
            have hoi : ops[i]? = some ops[i] := Array.getElem?_eq_getElem hi
            have : i ∈ Region.ready .any ops listed := by
              rw [mem_ready]
              refine ⟨by rw [getD_bool listed i true (by omega)]; exact hl, ops[i], hoi, fun e he hb => ?_⟩
              have h2 := (edge i _ hoi).2
              unfold edgesOk at h2
              have h3 := Array.all_eq_true_iff_forall_mem.1 h2 e he
              simp only [hb, Bool.not_true, Bool.false_or, decide_eq_true_eq] at h3
              exact ihn e.on (by omega) (by omega)
            rw [hready] at this
            cases this
      refine hQ σ S w a (hsim.congr (fun t => ?_) (fun i => ?_)) hext hfr2
      · refine foldG_agree rfl fun j ws hw hne => absurd ?_ hne
        have : j < (zipT as es).length := (List.getElem?_eq_some_iff.1 hw).1
        rw [zipT_length hlen] at this
        simp [hall (j + 1) j (by omega) (by omega)]
      · refine foldG_agree rfl fun j ws hw hne => absurd ?_ hne
        have : j < (es.map (·.wr)).length := (List.getElem?_eq_some_iff.1 hw).1
        simp at this
        simp [hall (j + 1) j (by omega) (by omega)]
    · obtain ⟨hun, o, ho, hedges⟩ := mem_ready.1 hi
      have hlt : i < ops.size := (Array.getElem?_eq_some_iff.1 ho).1
      have hun' : listed.getD i false = false := by rw [← getD_bool listed i true (by omega)]; exact hun
      have hia : i < as.length := by omega
      have hie : i < es.length := by omega
      have hao : as[i]? = some as[i] := List.getElem?_eq_getElem hia
      have hee : es[i]? = some es[i] := List.getElem?_eq_getElem hie
      have hcomp' : compOper P bor ops o = some as[i] := cs i o as[i] (by rw [Array.getElem?_toList]; exact ho) hao
      have hd2 := compOper_dst hcomp'
      have hdd : ∀ d, o.dst = some d → d < nt := by
        intro d hd
        have := Array.all_eq_true_iff_forall_mem.1 hdst o (Array.mem_of_getElem? ho)
        simp only [hd] at this
        simpa using this
      -- what stands before i is listed
      have hbefi : ∀ j ∈ bef.getD i [], listed.getD j false = true := by
        intro j hj
        have h1 := (edge i o ho).1
        unfold befOk at h1
        have h2 := List.all_eq_true.1 h1 j hj
        rw [Array.any_eq_true'] at h2
        obtain ⟨ed, hed, h3⟩ := h2
        simp only [Bool.and_eq_true, Bool.or_eq_true, beq_iff_eq] at h3
        have h4 := hedges ed hed h3.1
        rcases h3.2 with h5 | h5
        · rw [← h5]; exact h4
        · exact hdown ed.on h4 j (by simpa using h5)
      -- no one that is listed stands behind i, and no one before i is left
      have unord : ∀ (j : Nat) x, as[j]? = some x → j ≠ i → (listed.getD j false ≠ decide (j < i)) →
          (j < i ∧ x.apart as[i] = true ∧ ∀ ej, es[j]? = some ej → (foot j ej).apart (foot i es[i]) = true) ∨ (i < j ∧ listed.getD j false = true ∧ as[i].apart x = true ∧ ∀ ej, es[j]? = some ej → (foot i es[i]).apart (foot j ej) = true) := by
        intro j x hx hne hd
        rcases Nat.lt_or_gt_of_ne hne with hji | hij
        · left
          have hnl : listed.getD j false = false := by simpa [hji] using hd
          have hnb : ¬ (bef.getD i []).contains j = true := fun h => by
            have := hbefi j (by simpa using h)
            rw [hnl] at this; cases this
          exact ⟨hji, (pair j i x as[i] hji hx hao).resolve_left hnb, fun ej hej => (hfoot j i ej es[i] hji hej hee).resolve_left hnb⟩
        · right
          have hl : listed.getD j false = true := by
            have : decide (j < i) = false := by simp; omega
            rw [this] at hd
            simpa using hd
          have hnb : ¬ (bef.getD j []).contains i = true := fun h => by
            have := hdown j hl i (by simpa using h)
            rw [hun'] at this; cases this
          exact ⟨hij, hl, (pair i j as[i] x hij hao hx).resolve_left hnb, fun ej hej => (hfoot i j es[i] ej hij hee hej).resolve_left hnb⟩
      have apartT : ∀ (x y : AOper) t, x.apart y = true → (t ∈ y.temps → x.dst ≠ some t) ∧ (∀ d, x.dst = some d → y.dst ≠ some d) ∧ (t ∈ x.temps → y.dst ≠ some t) := by
        intro x y t hxy
        simp only [AOper.apart, Bool.and_eq_true] at hxy
        refine ⟨fun ht hx => ?_, fun d hx hy => ?_, fun ht hy => ?_⟩
        · have := hxy.1; simp [hx] at this; exact this.1 ht
        · have := hxy.1; simp [hx] at this; exact this.2 hy
        · have := hxy.2; simp [hy] at this; exact this ht
      -- the operation sees what it saw in the text
      have hsees : stepOp call (base + siteWidth * i) as[i] (foldG (fun j => listed.getD j false) T0 0 (zipT as es)) (foldG (fun j => listed.getD j false) R0 0 (es.map (·.wr))) = some es[i] := by
        refine stepOp_local (hstep i as[i] es[i] hao hee) (fun t ht => ?_) (fun id hid => ?_)
        · refine foldG_agree rfl fun j ws hw hne => ?_
          simp only [Nat.zero_add] at hne
          have hj : j < as.length := by have := (List.getElem?_eq_some_iff.1 hw).1; rw [zipT_length hlen] at this; exact this
          have hje : j < es.length := by omega
          have hws := zipT_get (List.getElem?_eq_getElem hj) (List.getElem?_eq_getElem hje)
          rw [hw] at hws; simp at hws; subst hws
          have hne' : j ≠ i := by rintro rfl; exact hne (by rw [hun']; simp)
          refine lk_wT ?_
          rcases unord j _ (List.getElem?_eq_getElem hj) hne' hne with ⟨_, h1, _⟩ | ⟨_, _, h1, _⟩
          · exact (apartT _ _ t h1).1 ht
          · exact (apartT _ _ t h1).2.2 ht
        · refine foldG_agree rfl fun j ws hw hne => ?_
          simp only [Nat.zero_add] at hne
          have hje : j < es.length := by have := (List.getElem?_eq_some_iff.1 hw).1; simpa using this
          have hj : j < as.length := by omega
          have hws : ws = es[j].wr := by
            rw [List.getElem?_map, List.getElem?_eq_getElem hje] at hw
            simpa using hw.symm
          subst hws
          have hne' : j ≠ i := by rintro rfl; exact hne (by rw [hun']; simp)
          refine lk_keys fun hm => ?_
          rcases unord j _ (List.getElem?_eq_getElem hj) hne' hne with ⟨_, _, h1⟩ | ⟨_, _, _, h1⟩
          · have h2 := h1 _ (List.getElem?_eq_getElem hje)
            simp only [Foot.apart, foot, Bool.and_eq_true] at h2
            exact disj_mem h2.1 hm (List.mem_append_left _ hid)
          · have h2 := h1 _ (List.getElem?_eq_getElem hje)
            simp only [Foot.apart, foot, Bool.and_eq_true] at h2
            exact disj_mem h2.2 hm hid
      have hw32 : siteWidth = 32 := rfl
      have hset : ∀ j, (listed.setIfInBounds i true).getD j false = if j = i then true else listed.getD j false := by
        intro j
        by_cases hji : j = i
        · subst hji; simp [show j < listed.size by omega]
        · rw [if_neg hji, getD_set_ne false (Ne.symm hji)]
      have key := oper_step (P := P) (Q := Q) (K := wpAny P .any ops Q fuel (listed.setIfInBounds i true)) hsim (s := base + siteWidth * i) (hfr i hlt hun') ho hcomp' hsees hcall (fun v w' hs => by
        obtain ⟨σ', S', hsim', hext', hout⟩ := hsim.step hs (dst := o.dst) hdd
        refine ih (listed.setIfInBounds i true) σ' S' w' (a.put o.dst v) (by simpa using hsz) ?_ ?_ (hsim'.congr (fun t => ?_) (fun id => ?_)) (hext.trans hext'.w) ?_ ?_
        · have hli : listed.toList[i]'(by simp; omega) = false := by
            have : listed.getD i false = listed[i]'(by omega) := by simp [show i < listed.size by omega]
            rw [this] at hun'
            simpa using hun'
          rw [Array.toList_setIfInBounds, List.count_set (by simp; omega), hli]
          simp
          simp at hcount
          omega
        · intro j hj k hk
          rw [hset] at hj ⊢
          by_cases hki : k = i
          · simp [hki]
          · rw [if_neg hki]
            by_cases hji : j = i
            · subst hji; exact hbefi k hk
            · rw [if_neg hji] at hj; exact hdown j hj k hk
        · -- temporaries
          rw [← hd2, updT_updG]
          by_cases hdt : as[i].dst = some t
          · have hlk : lk t (wT as[i] es[i]) = some (some es[i].v) := by simp [wT, hdt, lk]
            rw [show updG (wT as[i] es[i]) _ t = some es[i].v from by unfold updG; rw [hlk]]
            refine foldG_last (i := i) (zipT_get hao hee) hlk (by rw [Nat.zero_add, hset]; simp) fun j wj hij hw hL => ?_
            rw [Nat.zero_add, hset, if_neg (by omega)] at hL
            have hj : j < as.length := by have := (List.getElem?_eq_some_iff.1 hw).1; rw [zipT_length hlen] at this; exact this
            have hje : j < es.length := by omega
            have hws := zipT_get (List.getElem?_eq_getElem hj) (List.getElem?_eq_getElem hje)
            rw [hw] at hws; simp at hws; subst hws
            refine lk_wT ?_
            rcases unord j _ (List.getElem?_eq_getElem hj) (by omega) (by rw [hL]; simp; omega) with ⟨h0, _⟩ | ⟨_, _, h1, _⟩
            · omega
            · exact (apartT _ _ t h1).2.1 t hdt
          · have hlk := lk_wT (e := es[i]) hdt
            rw [show updG (wT as[i] es[i]) (foldG (fun j => listed.getD j false) T0 0 (zipT as es)) t = foldG (fun j => listed.getD j false) T0 0 (zipT as es) t from by unfold updG; rw [hlk]]
            refine foldG_agree rfl fun j ws hw hne => ?_
            simp only [Nat.zero_add, hset] at hne
            by_cases hji : j = i
            · subst hji
              have hws := zipT_get hao hee
              rw [hw] at hws; simp at hws; subst hws
              exact hlk
            · rw [if_neg hji] at hne; exact absurd rfl hne
        · -- rows
          rw [updR_updG]
          cases hlk : lk id es[i].wr with
          | some r =>
            rw [show updG es[i].wr _ id = r from by unfold updG; rw [hlk]]
            refine foldG_last (i := i) (by rw [List.getElem?_map, hee]; rfl) hlk (by rw [Nat.zero_add, hset]; simp) fun j wj hij hw hL => ?_
            rw [Nat.zero_add, hset, if_neg (by omega)] at hL
            have hje : j < es.length := by have := (List.getElem?_eq_some_iff.1 hw).1; simpa using this
            have hj : j < as.length := by omega
            have hws : wj = es[j].wr := by
              rw [List.getElem?_map, List.getElem?_eq_getElem hje] at hw
              simpa using hw.symm
            subst hws
            have hmem : id ∈ es[i].wr.map (·.1) := Classical.byContradiction fun hn => by rw [lk_keys hn] at hlk; cases hlk
            refine lk_keys fun hm => ?_
            rcases unord j _ (List.getElem?_eq_getElem hj) (by omega) (by rw [hL]; simp; omega) with ⟨h0, _⟩ | ⟨_, _, _, h1⟩
            · omega
            · have h2 := h1 _ (List.getElem?_eq_getElem hje)
              simp only [Foot.apart, foot, Bool.and_eq_true] at h2
              exact disj_mem h2.1 hmem (List.mem_append_right _ hm)
          | none =>
            rw [show updG es[i].wr (foldG (fun j => listed.getD j false) R0 0 (es.map (·.wr))) id = foldG (fun j => listed.getD j false) R0 0 (es.map (·.wr)) id from by unfold updG; rw [hlk]]
            refine foldG_agree rfl fun j ws hw hne => ?_
            simp only [Nat.zero_add, hset] at hne
            by_cases hji : j = i
            · subst hji
              rw [List.getElem?_map, hee] at hw
              simp at hw; subst hw
              exact hlk
            · rw [if_neg hji] at hne; exact absurd rfl hne
        · intro j hj hjl id h1 h2
          rw [hset] at hjl
          by_cases hji : j = i
          · simp [hji] at hjl
          · rw [if_neg hji] at hjl
            rw [hout id ?_]
            · exact hfr j hj hjl id h1 h2
            · rcases Nat.lt_or_gt_of_ne hji with h | h
              · left
                have : siteWidth * j + siteWidth ≤ siteWidth * i := by rw [← Nat.mul_succ]; exact Nat.mul_le_mul_left _ (by omega)
                omega
              · right
                have : siteWidth * i + siteWidth ≤ siteWidth * j := by rw [← Nat.mul_succ]; exact Nat.mul_le_mul_left _ (by omega)
                omega
        · intro id hid
          rw [hout id (.inr ?_)]
          · exact hfr2 id hid
          · have : siteWidth * i + siteWidth ≤ siteWidth * ops.size := by rw [← Nat.mul_succ]; exact Nat.mul_le_mul_left _ (by omega)
            omega)
      exact key.1

end
end Go.Abs
