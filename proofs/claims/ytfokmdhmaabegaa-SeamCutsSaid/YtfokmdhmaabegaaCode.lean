/-
  Code: sequences, tests, blocks, loops.
-/
import Derived.Test.YtfokmdhmaabegaaNorm
set_option linter.all false
namespace Go.Abs

theorem keepT_mem : ∀ {keep : List Nat} {tm : List (Nat × AV)} {p : Nat × AV}, p ∈ keepT keep tm → lk p.1 tm = some p.2
  | [], tm, p, h => by simp [keepT] at h
  | t :: ts, tm, p, h => by
    unfold keepT at h
    split at h
    · rename_i v hv
      rcases List.mem_cons.1 h with rfl | h
      · exact hv
      · exact keepT_mem h
    · exact keepT_mem h

section
variable {P : Program} {Own : Nat → Prop} {LL : List (Nat × Loc)} {LE : List (Nat × Option Nat)} {nt : Nat} {S0 : Nat → Prop} {w0 : World}

theorem Sim.keep {σ : Ids} {S : Nat → Prop} {w : World} {T T' : Nat → Option AV} {R : Nat → Option Row} {a : Act} (h : Sim Own LL nt σ S w T R a) (hT : ∀ t x, T' t = some x → T t = some x) : Sim Own LL nt σ S w T' R a :=
  ⟨fun t x hx => h.tmps t x (hT t x hx), h.rows, h.size, h.nodefer, h.own, h.lent⟩

theorem nmArrs_spec {σ : Ids} {S : Nat → Prop} {w : World} {ρ : Ren} {rows : List (Nat × Row)} (hR : RowsOk Own σ S w (fun i => lk i rows)) (hn : ρ.names.Nodup) : ∀ {l : List (Nat × Nat)}, (∀ p ∈ l, p ∈ ρ.ren) →
    ∀ p ∈ nmArrs rows l, RowOk (newIds σ ρ) S w p.1 p.2 ∧ ∃ id r0, (id, p.1) ∈ l ∧ lk id rows = some r0
  | [], _, p, hp => by simp [nmArrs] at hp
  | (id, k) :: l, hl, p, hp => by
    have hk := newIds_ren (σ := σ) hn (hl (id, k) (by simp))
    have ih := nmArrs_spec hR hn (l := l) fun p hp => hl p (List.mem_cons_of_mem _ hp)
    unfold nmArrs at hp
    split at hp
    · rename_i sz es hrow
      rcases List.mem_cons.1 hp with rfl | hp
      · exact ⟨(hR.ok id _ hrow).rename hk (by simp), id, _, by simp, hrow⟩
      · obtain ⟨q1, i', r0, q2, q3⟩ := ih p hp; exact ⟨q1, i', r0, List.mem_cons_of_mem _ q2, q3⟩
    · rename_i q kv hrow
      rcases List.mem_cons.1 hp with rfl | hp
      · exact ⟨(hR.ok id _ hrow).rename hk (by simp), id, _, by simp, hrow⟩
      · obtain ⟨q1, i', r0, q2, q3⟩ := ih p hp; exact ⟨q1, i', r0, List.mem_cons_of_mem _ q2, q3⟩
    · obtain ⟨q1, i', r0, q2, q3⟩ := ih p hp; exact ⟨q1, i', r0, List.mem_cons_of_mem _ q2, q3⟩

theorem norm_sound {keep : List Nat} {fr fr' : Fr} {σ : Ids} {S : Nat → Prop} {w : World} {a : Act} (h : norm keep fr = some fr') (hsim : Sim Own LL nt σ S w (fun t => lk t fr.tm) (fun i => lk i fr.rows) a)
    (hLE : LE.map (·.1) = LL.map (·.1)) (hlent : fr.lent = LE) :
    ∃ σ', Sim Own LL nt σ' S w (fun t => lk t fr'.tm) (fun i => lk i fr'.rows) a ∧ (∀ id, fr'.next ≤ id → σ' id = none) ∧ fr'.lent = LE := by
  unfold norm at h
  simp only at h
  generalize hx : nmTm (keepT keep fr.tm) ⟨fr.lent.map fun p => (p.1, p.1), []⟩ = x at h
  generalize hy : nmRows fr.rows x.2.ren x.2 = y at h
  split at h
  · rename_i hc
    simp only [Bool.and_eq_true] at hc
    obtain ⟨⟨hnd, hlt⟩, hsc⟩ := hc
    simp only [Option.some.injEq] at h
    subst h
    have hn : y.2.names.Nodup := nodup_iff hnd
    have htm := nmTm_spec (σ := σ) (S := S) (w := w) (ρ := y.2) (a := a) (l := keepT keep fr.tm) (r := ⟨fr.lent.map fun p => (p.1, p.1), []⟩)
    rw [hx] at htm
    obtain ⟨t1, t2, t3⟩ := htm
    have hro := nmRows_spec (ρ := y.2) hsim.rows (l := x.2.ren) (r := x.2)
    rw [hy] at hro
    obtain ⟨r1, r2, r3⟩ := hro
    have hkeys0 : Ren.keys ⟨fr.lent.map fun p => (p.1, p.1), []⟩ := by
      intro id k k' h1 h2
      simp only [List.mem_map, Prod.mk.injEq] at h1 h2
      obtain ⟨_, _, e1, e2⟩ := h1
      obtain ⟨_, _, e3, e4⟩ := h2
      rw [← e2, ← e4, e1, e3]
    have hkeys : y.2.keys := r2 (t2 hkeys0)
    have hxl : ∀ p ∈ x.2.ren, p ∈ y.2.ren := r1.1
    have hrows1 := r3 hn hxl (Ren.le_refl _) (by simpa using hsc)
    have hmore := nmArrs_spec (ρ := y.2) hsim.rows hn (l := y.2.ren.drop x.2.ren.length) (fun p hp => List.mem_of_mem_drop hp)
    -- the rows
    have parts : ∀ k row, lk k (y.1 ++ nmArrs fr.rows (y.2.ren.drop x.2.ren.length) ++ y.2.virt.map (fun p => (p.1, Row.arr p.2 []))) = some row →
        RowOk (newIds σ y.2) S w k row ∧ ((k ∈ y.2.virt.map (·.1)) ∨ ∃ id r0, (id, k) ∈ y.2.ren ∧ lk id fr.rows = some r0) := by
      intro k row hk
      have hm := lk_mem hk
      simp only [List.mem_append] at hm
      rcases hm with (hm | hm) | hm
      · obtain ⟨q1, id, r0, q2, q3⟩ := hrows1 _ hm
        exact ⟨q1, .inr ⟨id, r0, hxl _ q2, q3⟩⟩
      · obtain ⟨q1, id, r0, q2, q3⟩ := hmore _ hm
        exact ⟨q1, .inr ⟨id, r0, List.mem_of_mem_drop q2, q3⟩⟩
      · obtain ⟨p, hp, hpe⟩ := List.mem_map.1 hm
        cases hpe
        have hv : p.1 ∈ y.2.virt.map (·.1) := List.mem_map_of_mem hp
        exact ⟨.inl ⟨newIds_virt hn hv, rfl⟩, .inl hv⟩
    have has : ∀ k row b, lk k (y.1 ++ nmArrs fr.rows (y.2.ren.drop x.2.ren.length) ++ y.2.virt.map (fun p => (p.1, Row.arr p.2 []))) = some row → Loc.has (newIds σ y.2 k) b →
        ∃ id r0, (id, k) ∈ y.2.ren ∧ lk id fr.rows = some r0 ∧ Loc.has (σ id) b := by
      intro k row b hk hb
      rcases (parts k row hk).2 with hv | ⟨id, r0, h1, h2⟩
      · obtain ⟨l, hl, hbb⟩ := hb
        rw [newIds_virt hn hv] at hl
        cases hl; cases hbb
      · rw [newIds_ren hn h1] at hb
        exact ⟨id, r0, h1, h2, hb⟩
    refine ⟨newIds σ y.2, ⟨fun t v hv => ?_, ⟨fun k row hk => (parts k row hk).1, fun k row b hk hb => ?_, fun k k' row row' b hk hk' hb hb' => ?_, hsim.rows.old⟩, hsim.size, hsim.nodefer, hsim.own, fun p hp => ?_⟩, fun id hid => ?_, hlent⟩
    · exact t3 hn r1 (fun p hp => hsim.tmps p.1 p.2 (keepT_mem hp)) (t, v) (lk_mem hv)
    · obtain ⟨id, r0, h1, h2, h3⟩ := has k row b hk hb
      exact hsim.rows.apart id r0 b h2 h3
    · obtain ⟨id, r0, h1, h2, h3⟩ := has k row b hk hb
      obtain ⟨id', r0', h1', h2', h3'⟩ := has k' row' b hk' hb'
      have := hsim.rows.inj id id' r0 r0' b h2 h2' h3 h3'
      subst this
      exact hkeys id k k' h1 h1'
    · have hm : (p.1, p.1) ∈ y.2.ren := by
        refine r1.1 _ (t1.1 _ ?_)
        have hm1 : p.1 ∈ fr.lent.map (·.1) := by rw [hlent, hLE]; exact List.mem_map_of_mem hp
        obtain ⟨q, hq, hqe⟩ := List.mem_map.1 hm1
        simp only [List.mem_map]
        exact ⟨q, hq, by rw [hqe]⟩
      rw [newIds_ren hn hm]
      exact hsim.lent p hp
    · cases hq : newIds σ y.2 id with
      | none => rfl
      | some l =>
        have hm := newIds_some hq
        have := List.all_eq_true.1 hlt id hm
        simp at this
        simp only [nextBase] at hid this
        omega
  · cases h

def exOf : AEx → Exit
  | .normal => .normal
  | .exit id => .exit id
  | .ret => .ret

/-- what holds behind a piece of code -/
def CPost (Own : Nat → Prop) (LL : List (Nat × Loc)) (LE : List (Nat × Option Nat)) (nt : Nat) (S0 : Nat → Prop) (w0 : World) (r : AEx × Fr) (e : Exit) (a : Act) (w : World) : Prop :=
  e = exOf r.1 ∧ ∃ σ S, Sim Own LL nt σ S w (fun t => lk t r.2.tm) (fun i => lk i r.2.rows) a ∧ ExtW Own S0 w0 S w ∧ (∀ id, r.2.next ≤ id → σ id = none) ∧ r.2.lent = LE

theorem region_sound {bor : Nat → List Nat} {call : CallF} {id : Nat} {ops : Array Oper} {draw : Bool} {as : List AOper} {bef : List (List Nat)} {keep : List Nat} {fr fr' : Fr} (hcall : ∀ f vs r, call f vs = some r → CallOk P f vs r.1 r.2 ∧ Enterable P f)
    (hmix : P.follows .mixedOrders = true) (hcomp : mapO (compOper P bor ops) ops.toList = some as) (hdst : dstOk nt ops = true) (hdraw : draw = true → drawOk ops as bef = true) (h : runRegion call as draw bef keep fr = some fr')
    {σ : Ids} {S : Nat → Prop} {w : World} {a : Act} (hsim : Sim Own LL nt σ S w (fun t => lk t fr.tm) (fun i => lk i fr.rows) a) (hext : ExtW Own S0 w0 S w) (hfr : ∀ id, fr.next ≤ id → σ id = none) (hlent : fr.lent = LE) :
    (Code.region id ops draw).wp P (CPost Own LL LE nt S0 w0 (.normal, fr')) a w := by
  unfold runRegion at h
  split at h
  · cases h
  · rename_i tm rows hrun
    simp only [Option.some.injEq] at h
    subst h
    have hasz : as.length = ops.size := by have := (mapO_spec hcomp).1; simpa using this
    have hkeep : ∀ t x, lk t (keepT keep tm) = some x → lk t tm = some x := fun t x hx => keepT_mem (lk_mem hx)
    cases draw with
    | false =>
      refine wp_region ?_
      rw [List.range_eq_range']
      have := text_sound (P := P) (Own := Own) (LL := LL) (nt := nt) (S0 := S0) (w0 := w0) (bor := bor) (ops := ops) (call := call) (base := fr.next) (Q := CPost Own LL LE nt S0 w0 (.normal, ⟨keepT keep tm, rows, fr.lent, fr.next + siteWidth * as.length⟩)) hcall hdst (tm' := tm) (rows' := rows)
        (fun σ S w a h1 h2 h3 => ⟨rfl, σ, S, h1.keep hkeep, h2, by rw [hasz]; exact h3, hlent⟩) (k := 0) (l := ops.toList) hrun rfl hcomp (by simp) hsim hext (by simpa using hfr)
      simpa using this
    | true =>
      refine wp_region_any hmix ?_
      obtain ⟨es, e1, e2, _, e4, e5, e6⟩ := runOps_draw hrun
      have hfalse : ∀ {β : Type} (l : List (List (Nat × Option β))) (X : Nat → Option β) (k : Nat), foldG (fun i => (Array.replicate ops.size false).getD i false) X k l = X := by
        intro β l
        induction l with
        | nil => intro X k; rfl
        | cons q l ih =>
          intro X k
          simp only [foldG]
          have : (Array.replicate ops.size false).getD k false = false := by
            by_cases hk : k < ops.size <;> simp [hk]
          rw [if_neg (by rw [this]; simp)]
          exact ih X (k + 1)
      refine draw_sound (P := P) (Own := Own) (LL := LL) (nt := nt) (S0 := S0) (w0 := w0) (bor := bor) (as := as) (es := es) (call := call) (base := fr.next) (bef := bef) (T0 := fun t => lk t fr.tm) (R0 := fun i => lk i fr.rows) hcall hdst hcomp (hdraw rfl) e1 ?_ ?_ ?_
        ops.size (Array.replicate ops.size false) σ S _ a (by simp) ?_ ?_ ?_ ?_ ?_ ?_
      · intro j o e ho he
        have := e2 j o e ho he
        rw [Nat.zero_add] at this
        have h1 : foldG (fun _ => true) (fun t => lk t fr.tm) 0 ((zipT as es).take j) = foldG (fun i => decide (i < j)) (fun t => lk t fr.tm) 0 (zipT as es) := funext fun t => by
          rw [foldG_take (X := fun t => lk t fr.tm)]; simp
        have h2 : foldG (fun _ => true) (fun i => lk i fr.rows) 0 ((es.map (·.wr)).take j) = foldG (fun i => decide (i < j)) (fun i => lk i fr.rows) 0 (es.map (·.wr)) := funext fun t => by
          rw [foldG_take (X := fun i => lk i fr.rows)]; simp
        rw [← h1, ← h2]; exact this
      · intro j j' e e' hjj h1 h2
        have := e4 j j' e e' hjj h1 h2
        simpa using this
      · intro σ' S' w' a' h1 h2 h3
        exact ⟨rfl, σ', S', (h1.congr (T' := fun t => lk t tm) (R' := fun i => lk i rows) e5 e6).keep hkeep, h2, by rw [hasz]; exact h3, hlent⟩
      · simp [List.count_replicate]
      · intro i hi
        exfalso
        have : (Array.replicate ops.size false).getD i false = false := by
          by_cases hk : i < ops.size <;> simp [hk]
        rw [this] at hi; cases hi
      · rw [hfalse, hfalse]
        have hdw : ∀ b : Nat, ({ w with drawn := w.drawn + 1 } : World).heap[b]? = w.heap[b]? := fun _ => rfl
        exact ⟨fun t x hx => (hsim.tmps t x hx).mono (Ids.le_refl σ) (fun _ h => h) fun b _ => hdw b,
          ⟨fun id r hr => (hsim.rows.ok id r hr).mono (Ids.le_refl σ) (fun _ h => h) (fun b _ => hdw b) fun b _ => hdw b, hsim.rows.apart, hsim.rows.inj, hsim.rows.old⟩, hsim.size, hsim.nodefer, hsim.own, hsim.lent⟩
      · exact hext.trans ⟨fun _ h => h, fun _ _ => rfl, fun _ _ => rfl, ⟨rfl, rfl, rfl, Nat.le_refl _⟩, fun _ h => .inl h⟩
      · intro i _ _ id h1 _
        exact hfr id (by omega)
      · intro id h1
        exact hfr id (by omega)

theorem code_sound {bor : Nat → List Nat} {hh : Hints} {call : CallF} {n : Nat} (hcall : ∀ f vs r, call f vs = some r → CallOk P f vs r.1 r.2 ∧ Enterable P f) (hmix : P.follows .mixedOrders = true) (hLE : LE.map (·.1) = LL.map (·.1)) :
    ∀ (c : Code) (blk : Nat) (ac : ACode), compCode P bor hh nt blk c = some ac → ∀ (fr : Fr) (r : AEx × Fr), evalCode call n ac fr = some r → ∀ (σ : Ids) (S : Nat → Prop) (w : World) (a : Act),
      Sim Own LL nt σ S w (fun t => lk t fr.tm) (fun i => lk i fr.rows) a → ExtW Own S0 w0 S w → (∀ id, fr.next ≤ id → σ id = none) → fr.lent = LE → c.wp P (CPost Own LL LE nt S0 w0 r) a w := by
  intro c
  induction c with
  | skip =>
    intro blk ac hc fr r he σ S w a hsim hext hfr hlent
    simp [compCode] at hc; subst hc
    simp [evalCode] at he; subst he
    exact wp_skip ⟨rfl, σ, S, hsim, hext, hfr, hlent⟩
  | region id ops draw =>
    intro blk ac hc fr r he σ S w a hsim hext hfr hlent
    simp only [compCode] at hc
    split at hc
    · cases hc
    · rename_i as has
      generalize (if draw = true then (lk id hh.befs).getD [] else []) = bef at hc
      split at hc
      · rename_i hcond
        simp only [Option.some.injEq] at hc; subst hc
        simp only [Bool.and_eq_true] at hcond
        simp only [evalCode] at he
        split at he
        · rename_i fr' hr
          simp at he; subst he
          exact region_sound hcall hmix has hcond.1 (fun hd => by subst hd; simpa using hcond.2) hr hsim hext hfr hlent
        · cases he
      · cases hc
  | seq x y ihx ihy =>
    intro blk ac hc fr r he σ S w a hsim hext hfr hlent
    simp only [compCode] at hc
    split at hc
    · rename_i ax ay hx hy
      simp at hc; subst hc
      simp only [evalCode] at he
      cases hex : evalCode call n ax fr with
      | none => rw [hex] at he; simp at he
      | some q =>
        rw [hex] at he
        obtain ⟨q1, q2⟩ := q
        refine wp_seq (wp_mono (ihx blk ax hx fr _ hex σ S w a hsim hext hfr hlent) fun e a' w' hp => ?_)
        obtain ⟨rfl, σ', S', p1, p2, p3, p4⟩ := hp
        cases q1 with
        | normal => exact ihy blk ay hy q2 r he σ' S' w' a' p1 p2 p3 p4
        | exit i => simp at he; subst he; exact ⟨rfl, σ', S', p1, p2, p3, p4⟩
        | ret => simp at he; subst he; exact ⟨rfl, σ', S', p1, p2, p3, p4⟩
    · cases hc
  | cond cnd x y ihx ihy =>
    intro blk ac hc fr r he σ S w a hsim hext hfr hlent
    simp only [compCode] at hc
    split at hc
    · rename_i c' ax ay hcc hx hy
      simp at hc; subst hc
      simp only [evalCode] at he
      split at he
      · rename_i hg
        exact wp_cond_true (opd_sound hsim.tmps hcc hg).bool_inv (ihx blk ax hx fr r he σ S w a hsim hext hfr hlent)
      · rename_i hg
        exact wp_cond_false (opd_sound hsim.tmps hcc hg).bool_inv (ihy blk ay hy fr r he σ S w a hsim hext hfr hlent)
      · cases he
    · cases hc
  | block id x ih =>
    intro blk ac hc fr r he σ S w a hsim hext hfr hlent
    simp only [compCode] at hc
    split at hc
    · rename_i ax hx
      simp at hc; subst hc
      simp only [evalCode] at he
      cases hex : evalCode call n ax fr with
      | none => rw [hex] at he; simp at he
      | some q =>
        rw [hex] at he
        obtain ⟨q1, q2⟩ := q
        refine wp_block (wp_mono (ih id ax hx fr _ hex σ S w a hsim hext hfr hlent) fun e a' w' hp => ?_)
        obtain ⟨rfl, σ', S', p1, p2, p3, p4⟩ := hp
        cases q1 with
        | normal => simp at he; subst he; exact ⟨rfl, σ', S', p1, p2, p3, p4⟩
        | exit i =>
          simp only at he
          simp only [exOf, Exit.inBlock]
          split
          · rename_i hi
            rw [if_pos hi] at he
            simp at he; subst he
            exact ⟨rfl, σ', S', p1, p2, p3, p4⟩
          · rename_i hi
            rw [if_neg hi] at he
            simp at he; subst he
            exact ⟨rfl, σ', S', p1, p2, p3, p4⟩
        | ret => simp at he; subst he; exact ⟨rfl, σ', S', p1, p2, p3, p4⟩
    · cases hc
  | loop x ih =>
    intro blk ac hc fr r he σ S w a hsim hext hfr hlent
    simp only [compCode] at hc
    split at hc
    · rename_i ax hx
      simp only [Option.some.injEq] at hc; subst hc
      simp only [evalCode] at he
      split at he
      · rename_i fr1 hnorm
        obtain ⟨σ1, s1, s2, s3⟩ := norm_sound hnorm hsim hLE hlent
        refine wp_loop_rounds n ?_
        have key : ∀ (m : Nat) (fr : Fr) (r : AEx × Fr), loopN (evalCode call n ax) (norm ((lk blk hh.loops).getD [])) m fr = some r → ∀ (σ : Ids) (S : Nat → Prop) (w : World) (a : Act),
            Sim Own LL nt σ S w (fun t => lk t fr.tm) (fun i => lk i fr.rows) a → ExtW Own S0 w0 S w → (∀ id, fr.next ≤ id → σ id = none) → fr.lent = LE → Code.rounds P x (CPost Own LL LE nt S0 w0 r) m a w := by
          intro m
          induction m with
          | zero => intro fr r h; simp [loopN] at h
          | succ m ihm =>
            intro fr r h σ S w a hsim hext hfr hlent
            rw [rounds_succ]
            simp only [loopN] at h
            cases hex : evalCode call n ax fr with
            | none => rw [hex] at h; simp at h
            | some q =>
              rw [hex] at h
              obtain ⟨q1, q2⟩ := q
              refine wp_mono (ih blk ax hx fr _ hex σ S w a hsim hext hfr hlent) fun e a' w' hp => ?_
              obtain ⟨rfl, σ', S', p1, p2, p3, p4⟩ := hp
              cases q1 with
              | normal =>
                simp only at h
                split at h
                · rename_i fr2 hn2
                  obtain ⟨σ2, t1, t2, t3⟩ := norm_sound hn2 p1 hLE p4
                  exact ihm fr2 r h σ2 S' w' a' t1 p2 t2 t3
                · cases h
              | exit i => simp at h; subst h; exact ⟨rfl, σ', S', p1, p2, p3, p4⟩
              | ret => simp at h; subst h; exact ⟨rfl, σ', S', p1, p2, p3, p4⟩
        exact key n fr1 r he σ1 S w a s1 hext s2 s3
      · cases he
    · cases hc
  | exit id =>
    intro blk ac hc fr r he σ S w a hsim hext hfr hlent
    simp [compCode] at hc; subst hc
    simp [evalCode] at he; subst he
    exact wp_exit ⟨rfl, σ, S, hsim, hext, hfr, hlent⟩
  | ret =>
    intro blk ac hc fr r he σ S w a hsim hext hfr hlent
    simp [compCode] at hc; subst hc
    simp [evalCode] at he; subst he
    exact wp_ret ⟨rfl, σ, S, hsim, hext, hfr, hlent⟩
  | _ =>
    intro blk ac hc
    simp [compCode] at hc

end
end Go.Abs
