/-
 Code: sequences, tests, blocks, loops, loops over functions.
 Functions, and all calls of a program: what the abstract interpreter says of a call holds of the machine.
-/
import Derived.Test.YtlcikiobkmajbaaCodes
import Derived.RangeFuncRecord
set_option linter.all false
namespace Go.Abs
section
variable {P : Program} {Γ : Gam} {LL : List (Nat × Loc)} {LE : List (Nat × Option Nat)} {nt : Nat}
def RoOk (ro : Option Nat) (Own : Nat → Prop) (w : World) : Prop:=∀ l,ro = some l → ¬ Own l∧∃ r,w.heap[l]? = some (.loop r)
def CodeOk (P : Program) (Γ : Gam) (LL : List (Nat × Loc)) (LE : List (Nat × Option Nat)) (nt : Nat) (bor : Nat → List Nat) (hh : Hints) (call : CallF) (n : Nat) (c : Code) : Prop :=
 ∀ {ro : Option Nat} {dn : Nat} {Own : Nat → Prop} {FX : Nat → Option Value} {S0 : Nat → Prop} {w0 : World} (fx : List Nat),(∀ t v,FX t = some v → t ∈ fx) → RoOk ro Own w0 →
  ∀ (blk : Nat) (ac : ACode),compCode P bor hh nt fx blk c = some ac → ∀ (fr : Fr) (r : AEx × Fr),evalCode call n ac fr = some r → ∀ (σ : Ids) (S : Nat → Prop) (w : World) (a : Act),
   Sim P Γ Own LL FX nt σ S w (fun t=>lk t fr.tm) (fun i=>lk i fr.rows) a → ExtW Own S0 w0 S w → (∀ id,fr.next≤id → σ id = none) → fr.lent = LE → c.wpIn (FR ro) dn P (CPost P Γ Own LL FX LE nt S0 w0 r) a w
theorem RowsOk.stay {Own Own' : Nat → Prop} {σ : Ids} {S S' : Nat → Prop} {w w' : World} {R : Nat → Option Row} (h : RowsOk P Γ Own σ S w R) (hO : ∀ b,Own b → b < w.heap.size → Own' b) (hS : ∀ b,S b → S' b) (hw : Stay S w w') (hz : w.heap.size≤w'.heap.size)
  (hb : ∀ id r b,R id = some r → Loc.has (σ id) b → w'.heap[b]? = w.heap[b]?∧¬ S' b) (ho : ∀ b,S' b → b < w'.heap.size) : RowsOk P Γ Own' σ S' w' R :=
 ⟨fun id r hr => (h.ok id r hr).stay (Ids.le_refl σ) hS hw hz (fun b hbb => (hb id r b hr hbb).1),fun id r b hr hbb => ⟨(hb id r b hr hbb).2,hO b (h.apart id r b hr hbb).2 (h.lt hr hbb)⟩,h.inj,ho⟩
theorem TmpsOk.stay {σ : Ids} {S S' : Nat → Prop} {w w' : World} {T : Nat → Option AV} {a a' : Act} (h : TmpsOk σ S w T a) (hS : ∀ b,S b → S' b) (hw : Stay S w w') (ha : ∀ t x,T t = some x → a'.tmps.getD t undef = a.tmps.getD t undef) : TmpsOk σ S' w' T a' :=
 ⟨fun t x hx => by rw [ha t x hx]; exact (h.1 t x hx).stay (Ids.le_refl σ) hS hw,h.2.stay hS hw⟩
theorem Sim.put {Own : Nat → Prop} {FX : Nat → Option Value} {σ : Ids} {S : Nat → Prop} {w : World} {T : Nat → Option AV} {R : Nat → Option Row} {a : Act} {l : Nat} {r : Loop} (o : Obj) (h : Sim P Γ Own LL FX nt σ S w T R a) (hl : w.heap[l]? = some (.loop r)) (hn : ¬ Own l) :
  Sim P Γ Own LL FX nt σ S (w.putObj l o) T R a:=by
 have hst : Stay S w (w.putObj l o):=Stay.put o hl (by intro cs t d h; cases h) (by intro es c h; cases h)
 refine ⟨h.tmps.stay (fun _ h => h) hst fun _ _ _ => rfl,h.rows.stay (fun _ h _ => h) (fun _ h => h) hst (by simp) (fun id r b hr hb => ⟨World.putObj_heap_other fun e=>?_,(h.rows.apart id r b hr hb).1⟩) (fun b hb => by simpa using h.rows.old b hb),h.size,?_,h.fix,fun b hb => h.own b (by simpa using hb),h.lent⟩
 ·subst e; exact hn (h.rows.apart id r b hr hb).2
 ·obtain ⟨Ds,h1,h2,h3⟩:=h.marks
  exact ⟨Ds,h1,h2,fun D hD => ⟨(h3 D hD).1,(h3 D hD).2.1,(World.putObj_heap_other (fun e : D = l => hn (e ▸ (h3 D hD).1))).trans (h3 D hD).2.2⟩⟩
theorem Sim.owns {Own Own' : Nat → Prop} {FX : Nat → Option Value} {σ : Ids} {S : Nat → Prop} {w : World} {T : Nat → Option AV} {R : Nat → Option Row} {a : Act} (h : Sim P Γ Own LL FX nt σ S w T R a) (hO : ∀ b,Own b → Own' b) : Sim P Γ Own' LL FX nt σ S w T R a:=by
 refine ⟨h.tmps,⟨h.rows.ok,fun id r b hr hb => ⟨(h.rows.apart id r b hr hb).1,hO b (h.rows.apart id r b hr hb).2⟩,h.rows.inj,h.rows.old⟩,h.size,?_,h.fix,fun b hb => hO b (h.own b hb),h.lent⟩
 obtain ⟨Ds,h1,h2,h3⟩:=h.marks;exact ⟨Ds,h1,h2,fun D hD => ⟨hO D (h3 D hD).1,(h3 D hD).2⟩⟩
structure LoopIn (P : Program) (Γ : Gam) (LL : List (Nat × Loc)) (LE : List (Nat × Option Nat)) (l : Nat) (a : Act) (C : List Nat) (S : Nat → Prop) (w : World) (fr : Fr) (σ : Ids) (Sf : Nat → Prop) : Prop where
 tmps : TmpsOk σ Sf w (fun t=>lk t fr.tm) a
 rows : RowsOk P Γ (fun b=>b ∈ C∧b ≠ l) σ Sf w (fun i=>lk i fr.rows)
 lent : ∀ p ∈ LL,σ p.1 = some p.2
 bound : ∀ b,Sf b → b ∈ C ∨ S b
 dom : ∀ id,fr.next≤id → σ id = none
 lentE : fr.lent = LE
theorem LoopIn.stay {l : Nat} {a : Act} {C : List Nat} {S S' : Nat → Prop} {w w' : World} {fr : Fr} {σ : Ids} {Sf : Nat → Prop} (h : LoopIn P Γ LL LE l a C S w fr σ Sf) (hS : ∀ b,S b → S' b) (hb : ∀ b ∈ C,b ≠ l → w'.heap[b]? = w.heap[b]?) (hw : Stay Sf w w') (hz : w.heap.size≤w'.heap.size) :
  LoopIn P Γ LL LE l a C S' w' fr σ Sf :=
 ⟨h.tmps.stay (fun _ h => h) hw fun _ _ _ => rfl,h.rows.stay (fun _ h _ => h) (fun _ h => h) hw hz (fun id r b hr hbb => ⟨hb b (h.rows.apart id r b hr hbb).2.1 (h.rows.apart id r b hr hbb).2.2,(h.rows.apart id r b hr hbb).1⟩) (fun b hb => Nat.lt_of_lt_of_le (h.rows.old b hb) hz),
  h.lent,fun b hb => (h.bound b hb).imp_right (hS b),h.dom,h.lentE⟩
def jumpC : AEx → Option Code
 | .normal => none
 | .exit id => some (.exit id)
 | .ret => some .ret
def loopH (P : Program) (Γ : Gam) (LL : List (Nat × Loc)) (LE : List (Nat × Option Nat)) (l : Nat) (a : Act) (rec : LoopState → Option Code → Loop) (step : Fr → Option (AEx × Fr)) (nm : Fr → Option Fr) (keep ps : List Nat) (fin : Nat × AEx × Fr) : LogP:=fun k rest C S w =>
 l ∈ C∧C.Nodup∧(∀ b ∈ C,b < w.heap.size)∧∃ σ Sf,
  ((∃ j i fr tail,k = some j∧w.heap[l]? = some (.loop (rec .ready none))∧LoopIn P Γ LL LE l a C S w fr σ Sf∧rounds step nm keep ps i (rest ++ tail) fr = some fin ∧
    ((j = 0∧tail = []∧fin.2.1 = .normal) ∨ (j = 1∧fin.2.1 ≠ .normal∧rest.length = fin.1 + 1 - i))) ∨
   (k = some 1∧rest = []∧fin.2.1 ≠ .normal∧w.heap[l]? = some (.loop (rec .done (jumpC fin.2.1)))∧LoopIn P Γ LL LE l a C S w fin.2.2 σ Sf))
theorem loopH_keep {l : Nat} {a : Act} {rec : LoopState → Option Code → Loop} {step : Fr → Option (AEx × Fr)} {nm : Fr → Option Fr} {keep ps : List Nat} {fin : Nat × AEx × Fr} : Keep (loopH P Γ LL LE l a rec step nm keep ps fin):=by
 intro k xs C S S' w w' h hS hC hSt hz;obtain ⟨h1,h2,h3,σ,Sf,h⟩:=h;have hst : ∀ {fr},LoopIn P Γ LL LE l a C S w fr σ Sf → LoopIn P Γ LL LE l a C S' w' fr σ Sf:=fun hi=>by
  refine hi.stay hS (fun b hb _ => hC b hb) (fun b hb => ?_) hz
  rcases hi.bound b hb with h | h
  ·exact ⟨fun i x hx => by rw [cell_of_heap (hC b h)]; exact hx,fun es c hm => by rw [hC b h]; exact hm⟩
  ·exact hSt b h
 refine ⟨h1,h2,fun b hb => Nat.lt_of_lt_of_le (h3 b hb) hz,σ,Sf,?_⟩
 rcases h with ⟨j,i,fr,tail,q1,q2,q3,q4⟩ | ⟨q1,q2,q3,q4,q5⟩
 ·exact .inl ⟨j,i,fr,tail,q1,(hC l h1).trans q2,hst q3,q4⟩
 ·exact .inr ⟨q1,q2,q3,(hC l h1).trans q4,hst q5⟩
theorem rounds_fin {step : Fr → Option (AEx × Fr)} {nm : Fr → Option Fr} {keep ps : List Nat} {fin : Nat × AEx × Fr} : ∀ {xs : List (List AV)} {i : Nat} {fr : Fr},rounds step nm keep ps i xs fr = some fin → i≤fin.1∧(fin.2.1 ≠ .normal → fin.1 < i + xs.length)
 | [],i,fr,h => by
  simp only [rounds,Option.some.injEq] at h;subst h;exact ⟨Nat.le_refl _,fun h=>absurd rfl h⟩
 | x :: xs,i,fr,h => by
  simp only [rounds] at h;split at h
  ·cases h
  ·split at h
   ·split at h
    ·have:=rounds_fin h
     simp only [List.length_cons];exact ⟨by omega,fun h=>by have:=this.2 h; omega⟩
    ·cases h
   ·simp only [Option.some.injEq] at h
    subst h;exact ⟨Nat.le_refl _,fun _=>by simp⟩
   ·cases h
theorem bothE_some {o : Option (AEx × Fr)} {b : Fr → Option (AEx × Fr)} {r : AEx × Fr} (h : bothE o b = some r) : ∃ fr,o = some (.normal,fr)∧b fr = some r:=by
 unfold bothE at h;split at h
 ·exact ⟨_,rfl,h⟩
 ·cases h
theorem keepT_keys {keep : List Nat} {tm : List (Nat × AV)} : ∀ p ∈ keepT keep tm,p.1 ∈ keep:=by
 induction keep with
 | nil => intro p h; simp [keepT] at h
 | cons t ts ih =>
  intro p h;unfold keepT at h;split at h
  ·rcases List.mem_cons.1 h with rfl | h
   ·simp
   ·exact List.mem_cons_of_mem _ (ih p h)
  ·exact List.mem_cons_of_mem _ (ih p h)
theorem nmTm_keys : ∀ {l : List (Nat × AV)} {r : Ren},(nmTm l r).1.map (·.1) = l.map (·.1)
 | [],r => rfl
 | (t,v) :: l,r => by
  simp only [nmTm,List.map_cons];rw [nmTm_keys (l:=l)]
theorem norm_keys {keep : List Nat} {fr fr' : Fr} (h : norm keep fr = some fr') {t : Nat} {v : AV} (ht : lk t fr'.tm = some v) : t ∈ keep:=by
 unfold norm at h;simp only at h;split at h
 ·simp only [Option.some.injEq] at h
  subst h;simp only at ht;have h1 : t ∈ (nmTm (keepT keep fr.tm) ⟨fr.lent.map fun p=>(p.1,p.1),[]⟩).1.map (·.1):=List.mem_map_of_mem (f:=(·.1)) (lk_mem ht)
  rw [nmTm_keys] at h1;obtain ⟨p,hp,rfl⟩:=List.mem_map.1 h1;exact keepT_keys p hp
 ·cases h
theorem setPs_sound {σ : Ids} {S : Nat → Prop} {w : World} : ∀ {ps : List Nat} {as : List AV} {vs : List Value} {tm tm' : List (Nat × AV)} {tmps : Array Value},setPs ps as tm = some tm' → vs.length = as.length →
  TmpsOk σ S w (fun t=>lk t tm) ⟨tmps,[]⟩ → (∀ (i : Nat) v a,vs[i]? = some v → as[i]? = some a → RelI S w v a) → (∀ t ∈ ps,t < tmps.size) →
  TmpsOk σ S w (fun t=>lk t tm') ⟨(ps.zip vs).foldl (fun q p => q.setIfInBounds p.1 p.2) tmps,[]⟩∧((ps.zip vs).foldl (fun q p => q.setIfInBounds p.1 p.2) tmps).size = tmps.size ∧
   (∀ t,t ∉ ps → ((ps.zip vs).foldl (fun q p => q.setIfInBounds p.1 p.2) tmps).getD t undef = tmps.getD t undef)∧ps.length = as.length
 | [],[],vs,tm,tm',tmps,h,hl,hT,hr,hp => by
  simp only [setPs,Option.some.injEq] at h;subst h;exact ⟨by simpa using hT,by simp,by simp,rfl⟩
 | p :: ps,x :: as,[],tm,tm',tmps,h,hl,hT,hr,hp => by simp at hl
 | p :: ps,x :: as,v :: vs,tm,tm',tmps,h,hl,hT,hr,hp => by
  simp only [setPs] at h;have hlt:=hp p (by simp)
  have hT2 : TmpsOk σ S w (fun t=>lk t ((p,x) :: tm)) ⟨tmps.setIfInBounds p v,[]⟩:=by
   refine ⟨fun t y hy => ?_,hT.2⟩
   simp only [lk] at hy;split at hy
   ·rename_i e
    subst e;simp only [Option.some.injEq] at hy;subst hy;simp only [Array.getD_eq_getD_getElem?,Array.getElem?_setIfInBounds_self_of_lt hlt,Option.getD_some];exact .imm (hr 0 v x rfl rfl)
   ·rename_i e
    have:=hT.1 t y hy;simpa [Array.getD_eq_getD_getElem?,Array.getElem?_setIfInBounds_ne e] using this
  obtain ⟨g1,g2,g3,g4⟩:=setPs_sound (vs:=vs) h (by simpa using hl) hT2 (fun i v a hv ha => hr (i + 1) v a (by simpa using hv) (by simpa using ha)) (fun t ht => by simpa using hp t (List.mem_cons_of_mem _ ht))
  refine ⟨by simpa using g1,by simpa using g2,fun t ht => ?_,by simp [g4]⟩
  simp only [List.mem_cons,not_or] at ht;have:=g3 t ht.2;simp only [List.zip_cons_cons,List.foldl_cons];rw [this];simp [Array.getD_eq_getD_getElem?,Array.getElem?_setIfInBounds_ne (Ne.symm ht.1)]
theorem round_sound {bor : Nat → List Nat} {hh : Hints} {call : CallF} {n : Nat} {x y : Code} {ax ay : ACode} {blk : Nat} {keep : List Nat} {ps : Array Tmp} {l fn dnum : Nat} {a : Act} {fin : Nat × AEx × Fr}
  (hLE : LE.map (·.1) = LL.map (·.1)) (ihx : CodeOk P Γ LL LE nt bor hh call n x) (ihy : CodeOk P Γ LL LE nt bor hh call n y) (hx : compCode P bor hh nt keep blk x = some ax) (hy : compCode P bor hh nt keep blk y = some ay)
  (hps : ∀ t ∈ ps.toList,t < nt∧t ∉ keep) (hsz : a.tmps.size = nt) :
  GoodY P l (loopH P Γ LL LE l a (fun st pe => { state:=st,pending:=pe,fn,tmps:=a.tmps,params:=ps,assign:=x,body:=y,defers:=dnum }) (fun fr=>bothE (evalCode call n ax fr) (evalCode call n ay)) (norm keep) keep ps.toList fin):=by
 intro S w vs as k xs xs' bb C hH hys hlen hrel hCS hSlt;obtain ⟨rec,hrec⟩ : ∃ rec : LoopState → Option Code → Loop,rec = fun st pe => { state:=st,pending:=pe,fn,tmps:=a.tmps,params:=ps,assign:=x,body:=y,defers:=dnum }:=⟨_,rfl⟩
 rw [← hrec] at hH ⊢;generalize hstep : (fun fr=>bothE (evalCode call n ax fr) (evalCode call n ay)) = step at hH ⊢
 obtain ⟨hlC,hnd,hlt,σ,Sf,hH⟩:=hH;rcases hH with ⟨j,i,fr,tail,rfl,hl,hin,hrounds,hj⟩ | ⟨rfl,rfl,_⟩
 rotate_left
 ·simp [yieldStep] at hys
 cases xs with
 | nil => simp [yieldStep] at hys
 | cons x0 xs =>
  simp only [yieldStep] at hys;split at hys;rotate_left
  ·cases hys
  rename_i hbeq;have hxe:=AV.beqL_eq _ _ hbeq;subst hxe;simp only [Option.some.injEq,Prod.mk.injEq] at hys;obtain ⟨hbb,rfl⟩:=hys;simp only [List.cons_append,rounds] at hrounds;cases htm : setPs ps.toList as fr.tm with
  | none => rw [htm] at hrounds; cases hrounds
  | some tm =>
   rw [htm] at hrounds;simp only at hrounds;have hSS : Stay Sf w w:=Stay.refl Sf w;obtain ⟨g1,g2,g3,g4⟩:=setPs_sound (σ:=σ) (S:=fun b=>Sf b ∨ S b) (w:=w) (tmps:=a.tmps) htm hlen (hin.tmps.stay (a':=⟨a.tmps,[]⟩) (fun _ h => .inl h) hSS fun _ _ _ => rfl)
    (fun i v c hv hc => (hrel i v c hv hc).stay (fun _ h => .inr h) (Stay.refl S w)) (fun t ht => by rw [hsz]; exact (hps t ht).1)
   generalize htmps : (ps.toList.zip vs).foldl (fun q p => q.setIfInBounds p.1 p.2) a.tmps = tmps' at g1 g2 g3
   have hyield : (Instr.yield l vs.toArray).run P w = .ok (.round l fn tmps' x y) w:=by
    have h1:=run_yield (P:=P) (args:=vs.toArray) hl (by rw [hrec]; simp only [List.size_toArray]; rw [hlen,← g4]; simp)
    rw [h1,hrec,← htmps];simp only
    congr 2
    rw [← Array.foldl_toList,Array.toList_zip]
   let FX : Nat → Option Value:=fun t=>if t ∈ keep then some (a.tmps.getD t undef) else none
   have hFX : ∀ t v,FX t = some v → t ∈ keep:=fun t v h => by
    simp only [FX] at h;split at h
    ·assumption
    ·cases h
   have walk : ∀ ex fr',step ⟨tm,fr.rows,fr.lent,fr.next⟩ = some (ex,fr') → RoundIn Fence.wide 0 P l fn tmps' x y w (fun e w' => e = .returned (.bool (jumpC ex).isNone) ∧
     w'.heap[l]? = some (.loop (rec (if (jumpC ex).isNone then .ready else .done) (jumpC ex)))∧∃ (C' : List Nat) (σ' : Ids) (S' : Nat → Prop) (a' : Act),l ∈ C'∧C'.Nodup∧(∀ b ∈ C',(b ∈ C ∨ w.heap.size≤b)∧b < w'.heap.size) ∧
      (∀ b,b < w.heap.size → b ∉ C → w'.heap[b]? = w.heap[b]?)∧Same w w'∧Sim P Γ (fun b=>(b ∈ C'∧b ≠ l) ∨ w'.heap.size≤b) LL FX nt σ' S' w' (fun t=>lk t fr'.tm) (fun i=>lk i fr'.rows) a' ∧
      (∀ b,S' b → b ∈ C' ∨ S b)∧(∀ id,fr'.next≤id → σ' id = none)∧fr'.lent = LE):=by
    intro ex fr' hst;rw [← hstep] at hst;obtain ⟨fr1,h1,h2⟩:=bothE_some hst
    let Own : Nat → Prop:=fun b=>(b ∈ C∧b ≠ l) ∨ w.heap.size≤b
    have hnl : ¬ Own l:=by
     rintro (⟨_,h⟩ | h)
     ·exact h rfl
     ·have:=hlt l hlC; omega
    have hsim0 : Sim P Γ Own LL FX nt σ (fun b=>Sf b ∨ S b) w (fun t=>lk t tm) (fun i=>lk i fr.rows) ⟨tmps',[]⟩:=by
     refine ⟨g1,hin.rows.stay (fun b hb _ => .inl hb) (fun _ h => .inl h) hSS (Nat.le_refl _) (fun id r b hr hb => ⟨rfl,?_⟩) (fun b hb => hb.elim (hin.rows.old b) (hSlt b)),g2.trans hsz,⟨[],rfl,List.nodup_nil,by simp⟩,fun t v hv => ?_,fun b hb => .inr hb,hin.lent⟩
     ·rintro (h | h)
      ·exact (hin.rows.apart id r b hr hb).1 h
      ·exact hCS b (hin.rows.apart id r b hr hb).2.1 h
     ·have hk:=hFX t v hv
      simp only [FX,hk,if_true,Option.some.injEq] at hv;rw [← hv];exact g3 t fun hm=>(hps t hm).2 hk
    refine roundIn_of_wpIn (F:=Fence.wide) trivial (wpIn_mono (ihx (ro:=some l) (dn:=0) (Own:=Own) (FX:=FX) (S0:=fun b=>Sf b ∨ S b) (w0:=w) keep hFX (fun l' h => by cases h; exact ⟨hnl,_,hl⟩) blk ax hx ⟨tm,fr.rows,fr.lent,fr.next⟩ _ h1 σ _ w _ hsim0 (ExtW.refl ..) hin.dom hin.lentE) ?_)
    rintro e a1 w1 ⟨rfl,σ1,S2,p1,p2,p3,p4⟩;have hl1 : w1.heap[l]? = some (.loop (rec .ready none)):=(p2.frame l hnl).trans hl;have hlt1 : l < w1.heap.size:=(Array.getElem?_eq_some_iff.1 hl1).1;refine ⟨_,run_beginRound hl1 (by rw [hrec]),?_⟩
    have hbusy : ({ rec .ready none with state:=.busy } : Loop) = rec .busy none:=by rw [hrec]
    rw [hbusy];have hl2 : (w1.putObj l (.loop (rec .busy none))).heap[l]? = some (.loop (rec .busy none)):=World.putObj_heap_same hlt1;refine wpIn_mono (ihy (ro:=some l) (dn:=0) (Own:=Own) (FX:=FX) (S0:=S2) (w0:=w1.putObj l (.loop (rec .busy none))) keep hFX (fun l' h => by cases h; exact ⟨hnl,_,hl2⟩) blk ay hy fr1 _ h2 σ1 S2 _ a1 (p1.put _ hl1 hnl) (ExtW.refl ..) p3 p4) ?_
    rintro e a3 w3 ⟨rfl,σ3,S3,r1,r2,r3,r4⟩;have hl3 : w3.heap[l]? = some (.loop (rec .busy none)):=(r2.frame l hnl).trans hl2;have hlt3 : l < w3.heap.size:=(Array.getElem?_eq_some_iff.1 hl3).1;have hend:=run_endRound (P:=P) (jumpC ex) hl3;have hrdy : ({ rec .busy none with state:=if (jumpC ex).isNone then .ready else .done,pending:=jumpC ex } : Loop) = rec (if (jumpC ex).isNone then .ready else .done) (jumpC ex):=by rw [hrec]
    rw [hrdy] at hend;have hz1 : w.heap.size≤w1.heap.size:=p2.same.size;have hz3 : w1.heap.size≤w3.heap.size:=by have:=r2.same.size; simpa using this
    let C':=C ++ List.range' w.heap.size (w3.heap.size - w.heap.size)
    have memC : ∀ b,b ∈ C' ↔ b ∈ C ∨ (w.heap.size≤b∧b < w3.heap.size):=by
     intro b;simp only [C',List.mem_append,List.mem_range'_1];constructor
     ·rintro (h | h)
      ·exact .inl h
      ·exact .inr ⟨h.1,by omega⟩
     ·rintro (h | h)
      ·exact .inl h
      ·exact .inr ⟨h.1,by omega⟩
    have own3 : ∀ b,Own b → (b ∈ C'∧b ≠ l) ∨ w3.heap.size≤b:=by
     intro b hb;rcases hb with hb | hb
     ·exact .inl ⟨(memC b).2 (.inl hb.1),hb.2⟩
     ·by_cases hbb : b < w3.heap.size
      ·refine .inl ⟨(memC b).2 (.inr ⟨hb,hbb⟩),fun e=>?_⟩
       have:=hlt l hlC;omega
      ·exact .inr (by omega)
    have post : ∃ (C' : List Nat) (σ' : Ids) (S' : Nat → Prop) (a' : Act),l ∈ C'∧C'.Nodup∧(∀ b ∈ C',(b ∈ C ∨ w.heap.size≤b)∧b < w3.heap.size) ∧
      (∀ b,b < w.heap.size → b ∉ C → (w3.putObj l (.loop (rec (if (jumpC ex).isNone then .ready else .done) (jumpC ex)))).heap[b]? = w.heap[b]?)∧Same w (w3.putObj l (.loop (rec (if (jumpC ex).isNone then .ready else .done) (jumpC ex)))) ∧
      Sim P Γ (fun b=>(b ∈ C'∧b ≠ l) ∨ w3.heap.size≤b) LL FX nt σ' S' (w3.putObj l (.loop (rec (if (jumpC ex).isNone then .ready else .done) (jumpC ex)))) (fun t=>lk t fr'.tm) (fun i=>lk i fr'.rows) a' ∧
      (∀ b,S' b → b ∈ C' ∨ S b)∧(∀ id,fr'.next≤id → σ' id = none)∧fr'.lent = LE:=by
     refine ⟨C',σ3,S3,a3,(memC l).2 (.inl hlC),?_,fun b hb => ?_,fun b hb hbC => ?_,⟨?_,?_,?_,by simp; omega⟩,(r1.put _ hl3 hnl).owns own3,fun b hb => ?_,r3,r4⟩
     ·refine List.nodup_append.2 ⟨hnd,List.nodup_range',fun b hb b' hb' => ?_⟩
      have:=hlt b hb;have:=(List.mem_range'_1.1 hb').1;omega
     ·rcases (memC b).1 hb with h | h
      ·exact ⟨.inl h,by have:=hlt b h; omega⟩
      ·exact ⟨.inr h.1,h.2⟩
     ·have hbl : b ≠ l:=fun e=>hbC (e ▸ hlC)
      have hnb : ¬ Own b:=by
       rintro (h | h)
       ·exact hbC h.1
       ·omega
      rw [World.putObj_heap_other hbl,r2.frame b hnb,World.putObj_heap_other hbl,p2.frame b hnb]
     ·exact r2.same.os.trans p2.same.os
     ·exact r2.same.tape.trans p2.same.tape
     ·exact r2.same.output.trans p2.same.output
     ·rcases r2.bound b hb with h | h
      ·rcases p2.bound b h with (h | h) | h
       ·rcases hin.bound b h with h | h
        ·exact .inl ((memC b).2 (.inl h))
        ·exact .inr h
       ·exact .inr h
       ·rcases own3 b h with h | h
        ·exact .inl h.1
        ·have:=r1.rows.old b hb; omega
      ·rcases own3 b h with h | h
       ·exact .inl h.1
       ·have:=r1.rows.old b hb; omega
    have post':=post;simp only [← World.putObj_size (w:=w3) (r:=l) (o:=.loop (rec (if (jumpC ex).isNone then .ready else .done) (jumpC ex)))] at post'
    have hl4 : (w3.putObj l (.loop (rec (if (jumpC ex).isNone then .ready else .done) (jumpC ex)))).heap[l]? = some (.loop (rec (if (jumpC ex).isNone then .ready else .done) (jumpC ex))):=World.putObj_heap_same hlt3
    cases ex <;> exact ⟨_,_,hend,rfl,hl4,post'⟩
   cases hst : step ⟨tm,fr.rows,fr.lent,fr.next⟩ with
   | none => rw [hst] at hrounds; cases hrounds
   | some q =>
    obtain ⟨ex,fr'⟩:=q;rw [hst] at hrounds;refine ⟨fn,tmps',x,y,hyield,?_⟩;have leave : ex ≠ .normal → fin = (i,ex,⟨keepT keep fr'.tm,fr'.rows,fr'.lent,fr'.next⟩) → RoundIn Fence.wide 0 P l fn tmps' x y w fun e w' => e = .returned (.bool bb)∧∃ C',loopH P Γ LL LE l a rec step (norm keep) keep ps.toList fin (some j) xs C' S w'∧C'.Nodup ∧
      (∀ b ∈ C',(b ∈ C ∨ w.heap.size≤b)∧b < w'.heap.size)∧(∀ b,b < w.heap.size → b ∉ C → w'.heap[b]? = w.heap[b]?)∧Same w w':=by
     intro hne hfin;have hj1 : j = 1∧xs = []:=by
      rcases hj with ⟨_,_,h⟩ | ⟨h1,_,h2⟩
      ·rw [hfin] at h; exact absurd h hne
      ·rw [hfin] at h2
       simp only [List.length_cons] at h2;exact ⟨h1,List.eq_nil_of_length_eq_zero (by omega)⟩
     obtain ⟨rfl,rfl⟩:=hj1;refine (walk ex fr' hst).mono fun e w' hp => ?_
     obtain ⟨he,hl',C',σ',S',a',c1,c2,c3,c4,c5,c6,c7,c8,c9⟩:=hp;have hjs : ∃ c,jumpC ex = some c:=by cases ex <;> first | exact absurd rfl hne | exact ⟨_,rfl⟩
     obtain ⟨c,hjc⟩:=hjs;refine ⟨by rw [he,← hbb,hjc]; rfl,C',⟨c1,c2,fun b hb => (c3 b hb).2,σ',S',.inr ⟨rfl,rfl,by rw [hfin]; exact hne,by rw [hl',hfin,hjc]; rfl,?_⟩⟩,c2,c3,c4,c5⟩
     rw [hfin];refine ⟨TmpsOk.stay (T:=fun t=>lk t (keepT keep fr'.tm)) ⟨fun t v hv => c6.tmps.1 t v (keepT_mem (lk_mem hv)),c6.tmps.2⟩ (fun _ h => h) (Stay.refl _ _) (fun t v hv => ?_),c6.rows.stay (fun b hb hbb => hb.resolve_right (by omega)) (fun _ h => h) (Stay.refl _ _) (Nat.le_refl _) (fun id r b hr hb => ⟨rfl,(c6.rows.apart id r b hr hb).1⟩) c6.rows.old,c6.lent,c7,c8,c9⟩
     have hk:=keepT_keys _ (lk_mem hv);exact (c6.fix t (a.tmps.getD t undef) (by simp only [FX]; rw [if_pos hk])).symm
    cases ex with
    | normal =>
     simp only at hrounds;cases hn : norm keep fr' with
     | none => rw [hn] at hrounds; cases hrounds
     | some fr'' =>
      rw [hn] at hrounds;simp only at hrounds;have hfin:=rounds_fin hrounds;have hbt : bb = true:=by
       rw [← hbb];rcases hj with ⟨rfl,_,_⟩ | ⟨rfl,_,h2⟩
       ·rfl
       ·cases xs with
        | nil => simp only [List.length_cons,List.length_nil] at h2; omega
        | cons _ _ => rfl
      refine (walk _ fr' hst).mono fun e w' hp => ?_
      obtain ⟨he,hl',C',σ',S',a',c1,c2,c3,c4,c5,c6,c7,c8,c9⟩:=hp;obtain ⟨σ2,t1,t2,t3⟩:=norm_sound hn c6 hLE c9;refine ⟨by rw [he,hbt]; rfl,C',⟨c1,c2,fun b hb => (c3 b hb).2,σ2,S',.inl ⟨j,i + 1,fr'',tail,rfl,hl',?_,hrounds,?_⟩⟩,c2,c3,c4,c5⟩
      ·refine ⟨t1.tmps.stay (fun _ h => h) (Stay.refl _ _) (fun t v hv => ?_),t1.rows.stay (fun b hb hbb => hb.resolve_right (by omega)) (fun _ h => h) (Stay.refl _ _) (Nat.le_refl _) (fun id r b hr hb => ⟨rfl,(t1.rows.apart id r b hr hb).1⟩) t1.rows.old,t1.lent,c7,t2,t3⟩
       have hk:=norm_keys hn hv;exact (t1.fix t (a.tmps.getD t undef) (by simp only [FX]; rw [if_pos hk])).symm
      ·rcases hj with h | ⟨h1,h2,h3⟩
       ·exact .inl h
       ·refine .inr ⟨h1,h2,?_⟩
        simp only [List.length_cons] at h3;omega
    | exit id => exact leave (by simp) (by simpa using hrounds.symm)
    | ret => exact leave (by simp) (by simpa using hrounds.symm)
theorem rangeF_sound {bor : Nat → List Nat} {hh : Hints} {call : CallF} {n : Nat} {f : Operand} {ps : Array Tmp} {x y : Code} (hcall : ∀ f vs r,call f vs = some r → CallOk P f vs r.1 r.2∧Enterable P f) (hLE : LE.map (·.1) = LL.map (·.1))
  (ihx : CodeOk P Γ LL LE nt bor hh call n x) (ihy : CodeOk P Γ LL LE nt bor hh call n y) {ro : Option Nat} {dn : Nat} {Own : Nat → Prop} {FX : Nat → Option Value} {S0 : Nat → Prop} {w0 : World} (hro : RoOk ro Own w0) {blk : Nat} {keep : List Nat} {ax ay : ACode}
  (hx : compCode P bor hh nt keep blk x = some ax) (hy : compCode P bor hh nt keep blk y = some ay) (hps : ∀ t ∈ ps.toList,t < nt∧t ∉ keep) {fr : Fr} {r : AEx × Fr} {σ : Ids} {S : Nat → Prop} {w : World} {a : Act}
  (hsim : Sim P Γ Own LL FX nt σ S w (fun t=>lk t fr.tm) (fun i=>lk i fr.rows) a) (hext : ExtW Own S0 w0 S w) (hlent : fr.lent = LE) {g : Nat} {pre vs : List AV} {ids : List Nat} {fst caps : Array Value}
  (he : evRangeF call (norm keep) keep ps.toList (fun fr=>bothE (evalCode call n ax fr) (evalCode call n ay)) fr g pre vs ids = some r) (hef : a.eval f = .func (.func g) fst caps)
  (hpl : fst.size = pre.length) (hpr : ∀ (i : Nat) v c,fst[i]? = some v → pre[i]? = some c → RelI (Locked σ S (fun i=>lk i fr.rows) ids) w v c)
  (f1 : caps.size = vs.length) (hcaps : ∀ (i : Nat) v c,caps[i]? = some v → vs[i]? = some c → RelI (Locked σ S (fun i=>lk i fr.rows) ids) w v c)
  (hno : ∀ c ∈ pre ++ vs,(∀ cs,c ≠ .bor cs)∧(∀ sz es,c ≠ .borS sz es)∧(∀ k xs,c ≠ .ylog k xs)∧(∀ sz es,c ≠ .own sz es)∧(∀ ks keys vals,c ≠ .borM ks keys vals)) :
  (Code.rangeFunc f ps x y).wpIn (FR ro) dn P (CPost P Γ Own LL FX LE nt S0 w0 r) a w:=by
 unfold evRangeF at he;split at he;rotate_left
 ·cases he
 rename_i xs hguess;split at he;rotate_left
 ·cases he
 rename_i fr1 hnm;generalize hstep : (fun fr=>bothE (evalCode call n ax fr) (evalCode call n ay)) = step at he
 cases hfin : rounds step (norm keep) keep ps.toList 0 xs fr1 with
 | none => rw [hfin] at he; cases he
 | some fin =>
  rw [hfin] at he;have hcl2 : ∃ j ys tail res,call g (pre ++ .ylog (some j) ys :: vs) = some (res,[.ylog (some j) []])∧r = fin.2∧xs = ys ++ tail∧((j = 0∧tail = []∧fin.2.1 = .normal) ∨ (j = 1∧fin.2.1 ≠ .normal∧ys.length = fin.1 + 1 - 0)):=by
   have hrf:=rounds_fin hfin;obtain ⟨i,ex,frE⟩:=fin;cases ex with
   | normal =>
    simp only [endRange] at he;split at he
    ·rename_i res hc2
     simp only [Option.some.injEq] at he;exact ⟨0,xs,[],res,hc2,he.symm,by simp,.inl ⟨rfl,rfl,rfl⟩⟩
    ·cases he
   | exit id =>
    simp only [endRange] at he;split at he
    ·rename_i res hc2
     simp only [Option.some.injEq] at he;have:=hrf.2 (by simp)
     exact ⟨1,xs.take (i + 1),xs.drop (i + 1),res,hc2,he.symm,(List.take_append_drop ..).symm,.inr ⟨rfl,by simp,by rw [List.length_take]; simp only at this ⊢; omega⟩⟩
    ·cases he
   | ret =>
    simp only [endRange] at he;split at he
    ·rename_i res hc2
     simp only [Option.some.injEq] at he;have:=hrf.2 (by simp)
     exact ⟨1,xs.take (i + 1),xs.drop (i + 1),res,hc2,he.symm,(List.take_append_drop ..).symm,.inr ⟨rfl,by simp,by rw [List.length_take]; simp only at this ⊢; omega⟩⟩
    ·cases he
  obtain ⟨j,ys,tail,res,hcj,rfl,hxs,hj⟩:=hcl2;obtain ⟨lk1,lk2⟩:=hsim.rows.lock ids
  let S1 : Nat → Prop:=Locked σ S (fun i=>lk i fr.rows) ids
  have hSS1 : ∀ b,S b → S1 b:=fun b h => .inl h
  have hS1 : ∀ b,S1 b → S b ∨ Own b:=lk2.bound;have hsim1 : Sim P Γ Own LL FX nt σ S1 w (fun t=>lk t (⟨fr.tm,updRows (gone ids) fr.rows,fr.lent,fr.next⟩ : Fr).tm) (fun i=>lk i (⟨fr.tm,updRows (gone ids) fr.rows,fr.lent,fr.next⟩ : Fr).rows) a:=by
   refine ⟨hsim.tmps.stay hSS1 (Stay.refl _ _) fun _ _ _ => rfl,?_,hsim.size,hsim.marks.mono hSS1 fun _ _ => rfl,hsim.fix,hsim.own,hsim.lent⟩
   have : (fun i=>lk i (updRows (gone ids) fr.rows)) = updR (gone ids) (fun i=>lk i fr.rows):=funext fun i=>lk_updRows ..
   simp only [this];exact lk1
  obtain ⟨σ1,s1,s2,s3⟩:=norm_sound hnm hsim1 hLE hlent;refine wpIn_rangeFunc fun fnid _ => ?_
  have hent : ∃ (l : Nat) (Ds : List Nat) (dnum : Nat) (w1 : World),(Instr.enterLoop fnid a.tmps ps x y (FR ro).round).run P w = .ok (l,Ds.map markOf) w1 ∧
    w1.heap[l]? = some (.loop { state:=.ready,pending:=none,fn:=fnid,tmps:=a.tmps,params:=ps,assign:=x,body:=y,defers:=dnum })∧w.heap.size≤l∧(∀ b,b < w.heap.size → w1.heap[b]? = w.heap[b]?)∧Same w w1 ∧
    Ds.Nodup∧∀ D ∈ Ds,w.heap.size≤D∧D ≠ l∧w1.heap[D]? = some (.deferred (some [])):=by
   have halloc : ∀ (u : World) (o : Obj) (b : Nat),b < u.heap.size → (u.alloc o).heap[b]? = u.heap[b]?:=fun u o b hb => by
    show (u.heap.push o)[b]? = u.heap[b]?
    rw [Array.getElem?_push];simp [show b ≠ u.heap.size by omega]
   have hsame : ∀ (u : World) (o : Obj),Same u (u.alloc o):=fun u o => ⟨rfl,rfl,rfl,by rw [World.size_alloc]; omega⟩
   cases ro with
   | none =>
    refine ⟨w.heap.size + 1,[w.heap.size],w.heap.size,_,run_enterLoop_outer ..,?_,by omega,fun b hb => ?_,(hsame w _).trans (hsame _ _),by simp,fun D hD => ?_⟩
    ·have:=World.alloc_heap_new (w.alloc (.deferred (some []))) (.loop { state:=.ready,pending:=none,fn:=fnid,tmps:=a.tmps,params:=ps,assign:=x,body:=y,defers:=w.heap.size })
     rwa [World.size_alloc] at this
    ·rw [halloc _ _ b (by rw [World.size_alloc]; omega),halloc _ _ b hb]
    ·simp only [List.mem_singleton] at hD
     subst hD;exact ⟨Nat.le_refl _,by omega,(halloc _ _ _ (by rw [World.size_alloc]; omega)).trans (World.alloc_heap_new w _)⟩
   | some l0 =>
    obtain ⟨hno,r0,hr0⟩:=hro l0 rfl;have hr1 : w.heap[l0]? = some (.loop r0):=(hext.frame l0 hno).trans hr0;refine ⟨w.heap.size,[],r0.defers,_,?_,World.alloc_heap_new w _,Nat.le_refl _,fun b hb => halloc _ _ b hb,hsame w _,by simp,by simp⟩
    show (Instr.enterLoop fnid a.tmps ps x y (some l0)).run P w = _
    unfold Instr.enterLoop;simp only [Sem.run_bind,run_getLoop hr1,run_newObj_alloc,Result.andThen,Sem.run_pure];rfl
  obtain ⟨l,Ds,dnum,w1,hrun,hl1,hlw,hold,hsm,hDn,hDs⟩:=hent;have hllt : l < w1.heap.size:=(Array.getElem?_eq_some_iff.1 hl1).1;have hz1:=hsm.size;obtain ⟨hok,fnG,hfnG,hbody,hname⟩:=hcall g _ _ hcj;simp only at hok;obtain ⟨C0,hC0,hC0n⟩ : ∃ C0 : List Nat,(∀ b,b ∈ C0 ↔ b < w1.heap.size∧(b = l ∨ ∃ id r,lk id fr1.rows = some r∧Loc.has (σ1 id) b))∧C0.Nodup:=by
   classical
   exact ⟨(List.range w1.heap.size).filter fun b=>decide (b = l ∨ ∃ id r,lk id fr1.rows = some r∧Loc.has (σ1 id) b),fun b=>by simp,List.Pairwise.filter _ List.nodup_range⟩
  have hC0own : ∀ b,b ∈ C0 → (w.heap.size≤b) ∨ (b < w.heap.size∧Own b∧¬ S1 b):=by
   intro b hb;by_cases h : w.heap.size≤b
   ·exact .inl h
   ·rcases ((hC0 b).1 hb).2 with rfl | ⟨id,r,h1,h2⟩
    ·exact absurd hlw h
    ·exact .inr ⟨by omega,(s1.rows.apart id r b h1 h2).2,(s1.rows.apart id r b h1 h2).1⟩
  have hDC0 : ∀ D ∈ Ds,D ∉ C0:=by
   intro D hD hm;rcases ((hC0 D).1 hm).2 with h | ⟨id,r,h1,h2⟩
   ·exact (hDs D hD).2.1 h
   ·have:=s1.rows.lt h1 h2
    have:=(hDs D hD).1;omega
  have hDlt : ∀ D ∈ Ds,D < w1.heap.size:=fun D hD => (Array.getElem?_eq_some_iff.1 (hDs D hD).2.2).1
  let S2 : Nat → Prop:=fun b=>S1 b ∨ b ∈ Ds
  have hS2lt : ∀ b,S2 b → b < w1.heap.size:=fun b hb => hb.elim (fun h=>Nat.lt_of_lt_of_le (s1.rows.old b h) hz1) (hDlt b)
  have hC0S2 : ∀ b ∈ C0,¬ S2 b∧b < w1.heap.size:=by
   intro b hb;refine ⟨?_,((hC0 b).1 hb).1⟩;rintro (h | h)
   ·rcases hC0own b hb with h2 | ⟨_,_,h2⟩
    ·have:=s1.rows.old b h; omega
    ·exact h2 h
   ·exact hDC0 b h hb
  have hst1 : Stay S1 w w1:=.heap fun b hb => hold b (s1.rows.old b hb)
  have hrs:=round_sound (P:=P) (Γ:=Γ) (LL:=LL) (LE:=LE) (nt:=nt) (l:=l) (fn:=fnid) (dnum:=dnum) (a:=a) (fin:=fin) hLE ihx ihy hx hy hps hsim.size;rw [hstep] at hrs;obtain ⟨rec,hrec⟩ : ∃ rec : LoopState → Option Code → Loop,rec = fun st pe => { state:=st,pending:=pe,fn:=fnid,tmps:=a.tmps,params:=ps,assign:=x,body:=y,defers:=dnum }:=⟨_,rfl⟩
  rw [← hrec] at hrs;have hl1' : w1.heap[l]? = some (.loop (rec .ready none)):=by rw [hl1,hrec]
  have hin1 : LoopIn P Γ LL LE l a C0 S2 w1 fr1 σ1 S1:=by
   refine ⟨s1.tmps.stay (fun _ h => h) hst1 fun _ _ _ => rfl,⟨fun id r hr => (s1.rows.ok id r hr).stay (Ids.le_refl _) (fun _ h => h) hst1 hz1 fun b hb => hold b (s1.rows.lt hr hb),fun id r b hr hb => ⟨(s1.rows.apart id r b hr hb).1,?_,fun e=>?_⟩,s1.rows.inj,fun b hb => Nat.lt_of_lt_of_le (s1.rows.old b hb) hz1⟩,s1.lent,fun b hb => .inr (.inl hb),s2,s3⟩
   ·exact (hC0 b).2 ⟨Nat.lt_of_lt_of_le (s1.rows.lt hr hb) hz1,.inr ⟨id,r,hr,hb⟩⟩
   ·have:=s1.rows.lt hr hb
    omega
  have hH : loopH P Γ LL LE l a rec step (norm keep) keep ps.toList fin (some j) ys C0 S2 w1 :=
   ⟨(hC0 l).2 ⟨hllt,.inl rfl⟩,hC0n,fun b hb => ((hC0 b).1 hb).1,σ1,S1,.inl ⟨j,0,fr1,tail,rfl,hl1',hin1,by rw [← hxs]; exact hfin,hj⟩⟩
  have hargs : LiftL (ArgR P (fun _=>loopH P Γ LL LE l a rec step (norm keep) keep ps.toList fin) S2 w1) (fst.toList ++ .func (.yield l) #[] #[] :: caps.toList) (pre ++ .ylog (some j) ys :: vs) C0:=by
   have many : ∀ (us : List Value) (cs : List AV),us.length = cs.length → (∀ (i : Nat) v c,us[i]? = some v → cs[i]? = some c → RelI S2 w1 v c) → (∀ c ∈ cs,(∀ cs,c ≠ .bor cs)∧(∀ sz es,c ≠ .borS sz es)∧(∀ k xs,c ≠ .ylog k xs)∧(∀ sz es,c ≠ .own sz es)∧(∀ ks keys vals,c ≠ .borM ks keys vals)) →
     ∀ (us' : List Value) (cs' : List AV) (B : List Nat),LiftL (ArgR P (fun _=>loopH P Γ LL LE l a rec step (norm keep) keep ps.toList fin) S2 w1) us' cs' B →
     LiftL (ArgR P (fun _=>loopH P Γ LL LE l a rec step (norm keep) keep ps.toList fin) S2 w1) (us ++ us') (cs ++ cs') B:=by
    intro us;induction us with
    | nil =>
     intro cs hl _ _ us' cs' B hB;cases cs with
     | nil => exact hB
     | cons _ _ => simp at hl
    | cons u us ih =>
     intro cs hl hr hn us' cs' B hB;cases cs with
     | nil => simp at hl
     | cons c cs =>
      have h0:=hn c (by simp)
      exact ⟨[],B,ArgR_imm (hr 0 u c rfl rfl) h0.1 h0.2.1 h0.2.2.1 h0.2.2.2.1,ih cs (by simpa using hl) (fun i v c hv hc => hr (i + 1) v c (by simpa using hv) (by simpa using hc)) (fun c hc => hn c (List.mem_cons_of_mem _ hc)) us' cs' B hB,rfl⟩
   refine many _ _ (by simp; omega) (fun i v c hv hc => (hpr i v c (by simpa using hv) hc).stay (fun _ h => .inl h) hst1) (fun c hc => hno c (List.mem_append_left _ hc)) _ _ _ ⟨C0,[],⟨l,rfl,hrs,hC0n,fun b hb => ((hC0 b).1 hb).1,loopH_keep,hH⟩,?_,by simp⟩
   have:=many caps.toList vs (by simp; omega) (fun i v c hv hc => (hcaps i v c (by simpa using hv) hc).stay (fun _ h => .inl h) hst1) (fun c hc => hno c (List.mem_append_right _ hc)) [] [] [] rfl
   simpa using this
  have hcalls:=hok (fun _=>loopH P Γ LL LE l a rec step (norm keep) keep ps.toList fin) S2 w1 _ C0 hargs hC0n hC0S2 hS2lt ((hsim.tmps.2.stay hSS1 (Stay.refl _ _)).stay (fun _ h => .inl h) hst1)
  refine ⟨l,Ds.map markOf,w1,{ target:=.fn (.func g) caps,args:=fst ++ #[.func (.yield l) #[] #[]] },w1,g,(fst.toList ++ Value.func (.yield l) #[] #[] :: caps.toList).toArray,w1,hrun,?_,fun _ _ => trivial,?_,(fun h=>by cases h),calls_toIn (hcalls.mono fun en w2 hp => ?_)⟩
  ·simp only [resolve,hef]
   simp [go_sem]
  ·have harr : fst ++ #[Value.func (.yield l) #[] #[]] ++ caps = (fst.toList ++ Value.func (.yield l) #[] #[] :: caps.toList).toArray:=by
    apply Array.ext';simp
   simp only [invoke,callFunc,Sem.run_bind,run_program,Result.andThen_ok,hfnG,hname,hbody,Bool.false_eq_true,if_false,Sem.run_pure];rw [harr]
  obtain ⟨v,S3,bs1,bs2,rfl,p1,p2,p3,p4,p5,p6,p7,p8⟩:=hp;have hlent : ∀ (us : List Value) (cs : List AV) (us' : List Value) (cs' : List AV),us.length = cs.length → (∀ c ∈ cs,(∀ cs,c ≠ .bor cs)∧(∀ sz es,c ≠ .borS sz es)∧(∀ k xs,c ≠ .ylog k xs)∧(∀ sz es,c ≠ .own sz es)∧(∀ ks keys vals,c ≠ .borM ks keys vals)) → lentVals (us ++ us') (cs ++ cs') = lentVals us' cs':=by
   intro us;induction us with
   | nil =>
    intro cs us' cs' hl _;cases cs with
    | nil => rfl
    | cons _ _ => simp at hl
   | cons u us ih =>
    intro cs us' cs' hl hn;cases cs with
    | nil => simp at hl
    | cons c cs =>
     have h0:=hn c (by simp)
     have hc : c.isLent = false:=by cases c <;> first | rfl | (exact absurd rfl (h0.1 _)) | (exact absurd rfl (h0.2.1 _ _)) | (exact absurd rfl (h0.2.2.1 _ _)) | (exact absurd rfl (h0.2.2.2.2 _ _ _))
     simp only [List.cons_append,lentVals,hc,Bool.false_eq_true,if_false];exact ih cs us' cs' (by simpa using hl) fun c hc => hn c (List.mem_cons_of_mem _ hc)
  rw [hlent _ _ _ _ (by simp; omega) (fun c hc => hno c (List.mem_append_left _ hc))] at p2
  simp only [lentVals,AV.isLent,if_true] at p2;obtain ⟨c1,c2,q1,q2,rfl⟩:=p2;have q2' : c2 = []:=by
   cases hlv : lentVals caps.toList vs with
   | nil => rw [hlv] at q2; exact q2
   | cons _ _ => rw [hlv] at q2; exact q2.elim
  subst q2';simp only [List.append_nil] at p3 p4;obtain ⟨l',hl',_,_,_,_,hE⟩:=q1;cases hl';obtain ⟨hE1,hE2,hE3,σ3,Sf,hE4⟩:=hE;have hend : ∃ st,st ≠ .busy∧w2.heap[l]? = some (.loop (rec st (jumpC fin.2.1)))∧LoopIn P Γ LL LE l a c1 S3 w2 fin.2.2 σ3 Sf:=by
   rcases hE4 with ⟨j',i,fr2,tail',e1,e2,e3,e4,e5⟩ | ⟨e1,e2,e3,e4,e5⟩
   ·rcases e5 with ⟨rfl,rfl,e5⟩ | ⟨rfl,e5,e6⟩
    ·simp only [List.append_nil,rounds,Option.some.injEq] at e4
     subst e4;exact ⟨.ready,by simp,e2,e3⟩
    ·have:=(rounds_fin e4).1
     simp only [List.length_nil] at e6;omega
   ·exact ⟨.done,by simp,e4,e5⟩
  obtain ⟨st,hst,hl2,hin⟩:=hend;have hrunE:=run_endLoop (P:=P) hl2 (by rw [hrec]; exact hst)
  have hpend : (rec st (jumpC fin.2.1)).pending = jumpC fin.2.1:=by rw [hrec]
  generalize hw3 : w2.putObj l (.loop { rec st (jumpC fin.2.1) with state:=.exhausted }) = w3 at hrunE
  rw [hpend] at hrunE;have hz12:=p8.size;have hz23 : w3.heap.size = w2.heap.size:=by rw [← hw3]; simp
  have hold3 : ∀ b,b < w1.heap.size → b ∉ C0 → w3.heap[b]? = w1.heap[b]?:=by
   intro b h1 h2;have hbl : b ≠ l:=fun e=>h2 (e ▸ (hC0 l).2 ⟨hllt,.inl rfl⟩)
   rw [← hw3,World.putObj_heap_other hbl];exact p7 b h1 h2
  have hstay3 : ∀ T : Nat → Prop,Stay T w2 w3:=fun T=>by rw [← hw3]; exact Stay.put _ hl2 (by intro cs t d h; cases h) (by intro es c h; cases h)
  have hc1 : ∀ b ∈ c1,¬ S3 b∧Own b:=by
   intro b hb;obtain ⟨h1,h2,h3⟩:=p4 b (List.mem_append_right _ hb);refine ⟨h1,?_⟩;rcases h2 with h2 | h2
   ·exact hsim.own b (by omega)
   ·rcases hC0own b h2 with h | ⟨_,h,_⟩
    ·exact hsim.own b h
    ·exact h
  have hkeepS : ∀ b,S1 b → w3.heap[b]? = w.heap[b]?:=by
   intro b hb;have hlt:=s1.rows.old b hb;have hnC : b ∉ C0:=fun hm=>(hC0S2 b hm).1 (.inl hb)
   rw [hold3 b (by omega) hnC,hold b hlt]
  have hsimE : ∃ σ' S',Sim P Γ Own LL FX nt σ' S' w3 (fun t=>lk t fin.2.2.tm) (fun i=>lk i fin.2.2.rows) { a with defers:=Ds.map markOf ++ a.defers }∧ExtW Own S0 w0 S' w3∧(∀ id,fin.2.2.next≤id → σ' id = none)∧fin.2.2.lent = LE:=by
   refine ⟨σ3,fun b=>Sf b ∨ S3 b,⟨hin.tmps.stay (fun _ h => .inl h) (hstay3 _) fun _ _ _ => rfl,hin.rows.stay (fun b hb _ => (hc1 b hb.1).2) (fun _ h => .inl h) (hstay3 _) (by omega) (fun id r b hr hb => ⟨?_,?_⟩) (fun b hb => ?_),hsim.size,?_,hsim.fix,fun b hb => hsim.own b (by omega),hin.lent⟩,
    hext.trans ⟨fun b hb => .inr (p5 b (.inl (hSS1 b hb))),fun b hb => hkeepS b (hSS1 b hb),fun b hb => ?_,?_,fun b hb => ?_⟩,hin.dom,hin.lentE⟩
   ·rw [← hw3]
    exact World.putObj_heap_other (hin.rows.apart id r b hr hb).2.2
   ·rintro (h | h)
    ·exact (hin.rows.apart id r b hr hb).1 h
    ·exact (hc1 b (hin.rows.apart id r b hr hb).2.1).1 h
   ·rcases hb with h | h
    ·have:=hin.rows.old b h; omega
    ·have:=(p6 b h).2; omega
   ·obtain ⟨Ds0,d1,d2,d3⟩:=hsim.marks
    refine ⟨Ds ++ Ds0,by simp [d1],List.nodup_append.2 ⟨hDn,d2,fun D hD D' hD' => ?_⟩,fun D hD => ?_⟩
    ·have:=(hDs D hD).1
     have:=hsim.rows.old D' (d3 D' hD').2.1;omega
    ·rcases List.mem_append.1 hD with hD | hD
     ·refine ⟨hsim.own D (hDs D hD).1,.inr (p5 D (.inr hD)),?_⟩
      rw [hold3 D (hDlt D hD) (hDC0 D hD)];exact (hDs D hD).2.2
     ·exact ⟨(d3 D hD).1,.inr (p5 D (.inl (hSS1 D (d3 D hD).2.1))),(hkeepS D (hSS1 D (d3 D hD).2.1)).trans (d3 D hD).2.2⟩
   ·have hlt : b < w.heap.size:=Nat.lt_of_not_le fun h=>hb (hsim.own b h)
    have hnC : b ∉ C0:=fun hm=>by
     rcases hC0own b hm with h | ⟨_,h,_⟩
     ·omega
     ·exact hb h
    rw [hold3 b (by omega) hnC,hold b hlt]
   ·refine ⟨?_,?_,?_,by omega⟩
    ·rw [← hw3]; exact p8.os.trans hsm.os
    ·rw [← hw3]; exact p8.tape.trans hsm.tape
    ·rw [← hw3]; exact p8.output.trans hsm.output
   ·have hS3 : ∀ b,S3 b → S b ∨ Own b:=by
     intro b hb;rcases (p6 b hb).1 with (h | h) | h | h
     ·exact hS1 b h
     ·exact .inr (hsim.own b (hDs b h).1)
     ·exact .inr (hsim.own b (by omega))
     ·rcases hC0own b h with h | ⟨_,h,_⟩
      ·exact .inr (hsim.own b h)
      ·exact .inr h
    rcases hb with h | h
    ·rcases hin.bound b h with h | h
     ·exact .inr (hc1 b h).2
     ·exact hS3 b h
    ·exact hS3 b h
  refine ⟨jumpC fin.2.1,w3,hrunE,?_⟩;obtain ⟨i,ex,frE⟩:=fin;cases ex with
  | normal => exact ⟨rfl,hsimE⟩
  | exit id => exact wpIn_exit ⟨rfl,hsimE⟩
  | ret => exact wpIn_ret ⟨rfl,hsimE⟩
theorem range_sound {bor : Nat → List Nat} {hh : Hints} {call : CallF} {n : Nat} {f : Operand} {ps : Array Tmp} {x y : Code} (hcall : ∀ f vs r,call f vs = some r → CallOk P f vs r.1 r.2∧Enterable P f) (hLE : LE.map (·.1) = LL.map (·.1))
  (ihx : CodeOk P Γ LL LE nt bor hh call n x) (ihy : CodeOk P Γ LL LE nt bor hh call n y) : CodeOk P Γ LL LE nt bor hh call n (.rangeFunc f ps x y):=by
 intro ro dn Own FX S0 w0 fx hfx hro blk ac hc fr r he σ S w a hsim hext hfr hlent;simp only [compCode] at hc;split at hc;rotate_left
 ·cases hc
 rename_i f' ax ay hf hx hy;split at hc;rotate_left
 ·cases hc
 rename_i hcond;simp only [Option.some.injEq] at hc;subst hc;generalize (lk blk hh.loops).getD [] = keep at hx hy hcond he;have hps : ∀ t ∈ ps.toList,t < nt∧t ∉ keep:=by
  intro t ht;have:=Array.all_eq_true_iff_forall_mem.1 hcond t (by simpa using ht)
  simpa using this
 simp only [evalCode] at he;unfold evRange at he;have hno1 : ∀ {d : Nat} {c c' : AV} {ids : List Nat},frz (fun i=>lk i fr.rows) d c = some (c',ids) → (∀ cs,c' ≠ .bor cs)∧(∀ sz es,c' ≠ .borS sz es)∧(∀ k xs,c' ≠ .ylog k xs)∧(∀ sz es,c' ≠ .own sz es)∧(∀ ks keys vals,c' ≠ .borM ks keys vals):=fun h=>⟨(frz_notOwn h).2.1,(frz_notOwn h).2.2.1,frz_notLog h,(frz_notOwn h).1,frz_notB h⟩
 split at he
 ·rename_i g cap hg
  split at he;rotate_left
  ·cases he
  rename_i vs ids hfz;have hvf:=Yp hsim.tmps hf hg;have hfv : ∃ caps,a.eval f = .func (.func g) #[] caps∧caps.size = cap.length∧∀ (i : Nat) v c,caps[i]? = some v → cap[i]? = some c → RelV σ S w v c:=by
   generalize a.eval f = vf at hvf;cases hvf with
   | imm hv => cases hv with | func _ us _ hl hr => exact ⟨us,rfl,hl,fun i v c h1 h2 => .imm (hr i v c h1 h2)⟩
   | func _ us _ hl hr => exact ⟨us,rfl,hl,hr⟩
  obtain ⟨caps,hef,hcl,hcr⟩:=hfv;obtain ⟨f1,f2⟩:=frzL_spec hfz;refine rangeF_sound hcall hLE ihx ihy hro hx hy hps hsim hext hlent he hef rfl (by simp) (by omega) (fun i v c hv hc => ?_) (fun c hc => ?_)
  ·have hi : i < cap.length:=by have:=(Array.getElem?_eq_some_iff.1 hv).1; omega
   obtain ⟨j,hj,hsub⟩:=f2 i cap[i] c (List.getElem?_eq_getElem hi) hc;exact (frz_sound hsim.rows _ hj (hcr i v _ hv (List.getElem?_eq_getElem hi))).lockMono hsub
  ·simp only [List.nil_append] at hc
   obtain ⟨i,hi,rfl⟩:=List.getElem_of_mem hc;have hic : i < cap.length:=by omega
   obtain ⟨j,hj,_⟩:=f2 i cap[i] vs[i] (List.getElem?_eq_getElem hic) (List.getElem?_eq_getElem hi);exact hno1 hj
 ·rename_i g b hg
  split at he;rotate_left
  ·cases he
  rename_i b' ids hfz;have hvf:=Yp hsim.tmps hf hg;have hfv : ∃ u,a.eval f = .func (.func g) #[u] #[]∧RelV σ S w u b:=by
   generalize a.eval f = vf at hvf;cases hvf with
   | imm hv => cases hv with | meth _ u _ hb => exact ⟨u,rfl,.imm hb⟩
   | meth _ u _ hb => exact ⟨u,rfl,hb⟩
  obtain ⟨u,hef,hub⟩:=hfv;refine rangeF_sound hcall hLE ihx ihy hro hx hy hps hsim hext hlent he hef (by simp) (fun i v c hv hc => ?_) rfl (by simp) (fun c hc => ?_)
  ·cases i with
   | zero => simp at hv hc; subst hv hc; exact frz_sound hsim.rows _ hfz hub
   | succ i => simp at hv
  ·simp at hc; subst hc; exact hno1 hfz
 ·cases he
theorem compLoop {bor : Nat → List Nat} {hh : Hints} {fx : List Nat} {blk : Nat} {x : Code} {ac : ACode} (h : compCode P bor hh nt fx blk (.loop x) = some ac) :
  (∃ ax,compCode P bor hh nt fx blk x = some ax∧ac = .loop ((lk blk hh.loops).getD []) ax) ∨
  ∃ id ops c it nx more ax,x = .seq (.region id ops false) c∧nextPat ops = some (it,nx,more)∧compCode P bor hh nt fx blk c = some ax∧dstOk nt fx ops = true ∧
   ac = .rangeM ((lk blk hh.loops).getD []) it nx more ax:=by
 have gen : ∀ (o : Option ACode),(match o with | some c => some (ACode.loop ((lk blk hh.loops).getD []) c) | none => none) = some ac → ∃ ax,o = some ax∧ac = .loop ((lk blk hh.loops).getD []) ax:=by
  intro o h;cases o with
  | none => cases h
  | some c => simp at h; exact ⟨c,rfl,h.symm⟩
 cases x with
 | seq x1 x2 =>
  cases x1 with
  | region id ops draw =>
   cases draw with
   | false =>
    rw [compCode] at h;cases hp : nextPat ops with
    | none => rw [hp] at h; exact .inl (gen _ h)
    | some q =>
     obtain ⟨it,nx,more⟩:=q;rw [hp] at h;simp only at h;cases hx : compCode P bor hh nt fx blk x2 with
     | none => rw [hx] at h; simp at h
     | some ax =>
      rw [hx] at h;simp only at h;split at h
      ·rename_i hd
       simp only [Option.some.injEq] at h;exact .inr ⟨id,ops,x2,it,nx,more,ax,rfl,hp,hx,hd,h.symm⟩
      ·cases h
   | true => rw [compCode] at h; exact .inl (gen _ h); all_goals simp
  | _ => rw [compCode] at h; exact .inl (gen _ h); all_goals simp
 | _ => rw [compCode] at h; exact .inl (gen _ h); all_goals simp
theorem nextPat_spec {ops : Array Oper} {it nx more : Nat} (h : nextPat ops = some (it,nx,more)) : ∃ o1 o2,ops.toList = [o1,o2]∧o1.op = .next (.tmp it) false∧o1.dst = some nx∧o1.guard = none ∧
  o2.op = .extract (.tmp nx) 0∧o2.dst = some more∧o2.guard = none∧nx ≠ more:=by
 unfold nextPat at h;split at h
 ·rename_i o1 o2 hl
  split at h
  ·rename_i it' nx' nx'' more' h1 h2 h3 h4 h5 h6
   split at h
   ·rename_i hc
    simp only [Option.some.injEq,Prod.mk.injEq] at h;obtain ⟨rfl,rfl,rfl⟩:=h;obtain ⟨rfl,hne,_⟩:=hc;exact ⟨o1,o2,hl,h1,h2,h3,h4,h5,h6,hne⟩
   ·cases h
  ·cases h
 ·cases h
theorem rangeM_sound {bor : Nat → List Nat} {hh : Hints} {call : CallF} {n : Nat} {blk id it nx more : Nat} {ops : Array Oper} {c : Code} {ax : ACode} {fx : List Nat} {FX : Nat → Option Value} (hfx : ∀ t v,FX t = some v → t ∈ fx) (hLE : LE.map (·.1) = LL.map (·.1))
  (ih : CodeOk P Γ LL LE nt bor hh call n c) {ro : Option Nat} {dn : Nat} {Own : Nat → Prop} {S0 : Nat → Prop} {w0 : World} (hro : RoOk ro Own w0) {keep : List Nat}
  (hx : compCode P bor hh nt fx blk c = some ax) (hpat : nextPat ops = some (it,nx,more)) (hdst : dstOk nt fx ops = true) {fr : Fr} {r : AEx × Fr} (he : evalCode call n (.rangeM keep it nx more ax) fr = some r)
  {σ : Ids} {S : Nat → Prop} {w : World} {a : Act} (hsim : Sim P Γ Own LL FX nt σ S w (fun t=>lk t fr.tm) (fun i=>lk i fr.rows) a) (hext : ExtW Own S0 w0 S w) (hlent : fr.lent = LE) :
  (Code.loop (.seq (.region id ops false) c)).wpIn (FR ro) dn P (CPost P Γ Own LL FX LE nt S0 w0 r) a w:=by
 simp only [evalCode,rangeX_eq] at he;split at he
 ·rename_i fr1 hnorm
  obtain ⟨σ1,s1,s2,s3⟩:=norm_sound hnorm hsim hLE hlent;obtain ⟨o1,o2,hops,g1,g2,g3,g4,g5,g6,hne⟩:=nextPat_spec hpat;have hsz : ops.size = 2:=by rw [← Array.length_toList,hops]; rfl
  have hi0 : ops[0]? = some o1:=by rw [← Array.getElem?_toList,hops]; rfl
  have hi1 : ops[1]? = some o2:=by rw [← Array.getElem?_toList,hops]; rfl
  have hdd : ∀ o ∈ ops,∀ d,o.dst = some d → d < nt∧FX d = none:=by
   intro o ho d hd;have:=Array.all_eq_true_iff_forall_mem.1 hdst o ho;simp only [hd] at this;exact dst_free hfx (by simpa using this)
  refine wpIn_loop_rounds n ?_;have key : ∀ (m : Nat) (fr : Fr) (r : AEx × Fr),rangeMN (evalCode call n ax) (norm keep) it nx more m fr = some r → ∀ (σ : Ids) (S : Nat → Prop) (w : World) (a : Act),
    Sim P Γ Own LL FX nt σ S w (fun t=>lk t fr.tm) (fun i=>lk i fr.rows) a → ExtW Own S0 w0 S w → (∀ id,fr.next≤id → σ id = none) → fr.lent = LE → Code.roundsIn (FR ro) dn P (.seq (.region id ops false) c) (CPost P Γ Own LL FX LE nt S0 w0 r) m a w:=by
   intro m;induction m with
   | zero => intro fr r h; simp [rangeMN] at h
   | succ m ihm =>
    intro fr r h σ S w a hsim hext hfr hlent;rw [roundsIn_succ];simp only [rangeMN] at h;split at h
    ·rename_i rid left hit
     unfold iterOf at hit;split at hit
     ·rename_i rid' hrid
      split at hit
      ·rename_i left' cur hrow
       simp only [Option.some.injEq,Prod.mk.injEq] at hit;obtain ⟨rfl,rfl⟩:=hit;rw [pickX_spec] at h;have hvi:=hsim.tmps.1 it _ hrid;have hwt : ∀ o : Oper,o.guard = none → ∀ t,Region.wanted o t = true:=fun o ho t => by simp [Region.wanted,ho]
       generalize hei : a.tmps.getD it undef = vi at hvi;cases hvi with
       | imm hv => cases hv
       | itV _ rb mb hσ =>
        obtain ⟨cc,hcc,vs,w',hrun,hv0,hstep⟩:=next_sound (s:=fr.next) hsim.rows hrow hσ o1.type;refine wpIn_seq (wpIn_region ?_);rw [hsz,show List.range 2 = [0,1] from rfl,wpOpsIn_cons]
        have ev1 : a.eval (.tmp it) = .pointer (some ⟨rb,0,none⟩):=hei;obtain ⟨σ',S',hsim',hext',hout⟩:=hsim.step hstep (dst:=o1.dst) (hdd o1 (Array.mem_of_getElem? hi0));have run1 : OpRuns P a o1 w (.tuple vs) w':=.inl (by simp [execOp,g1,ev1,hrun])
        unfold wpOpIn;simp only [hi0,hwt o1 g3,if_true];refine wp_toIn (fun q hq => by rw [g1] at hq; cases hq) (run1.wp ?_)
        rw [wpOpsIn_cons];have ev2 : (a.put o1.dst (.tuple vs)).eval (.tmp nx) = .tuple vs:=by
         have hlt:=(hdd o1 (Array.mem_of_getElem? hi0) nx g2).1;have hs:=hsim.size;rw [g2];show (Act.put a (some nx) (.tuple vs)).tmps.getD nx undef = _
         have hlt' : nx < a.tmps.size:=by rw [hs]; exact hlt
         simp [Act.put,hlt']
        have run2 : OpRuns P (a.put o1.dst (.tuple vs)) o2 w' (.bool cc.2.isSome) w':=.inl (by
         simp only [execOp,g4,ev2];simp [Instr.extract,hv0])
        obtain ⟨σ2,S2,hsim2,hext2,hout2⟩:=hsim'.step (s:=fr.next) (Step.pure hsim'.rows (.imm (.bool cc.2.isSome))) (dst:=o2.dst) (hdd o2 (Array.mem_of_getElem? hi1));unfold wpOpIn;simp only [hi1,hwt o2 g6,if_true];refine wp_toIn (fun q hq => by rw [g4] at hq; cases hq) (run2.wp ?_)
        show c.wpIn (FR ro) dn P _ _ w'
        have hround:=h.2 _ (List.mem_map.2 ⟨cc,hcc,rfl⟩);unfold roundIt at hround;have w32 : siteWidth = 32:=rfl;have hsim3 : Sim P Γ Own LL FX nt σ2 S2 w' (fun t=>lk t (takeIt nx more rid' cc.1 cc.2 fr).tm) (fun i=>lk i (takeIt nx more rid' cc.1 cc.2 fr).rows) ((a.put o1.dst (.tuple vs)).put o2.dst (.bool cc.2.isSome)):=by
         refine hsim2.congr (fun t=>?_) (fun i=>?_)
         ·rw [g2,g5]
          simp only [takeIt,lk,lk_del,updT,Eff.pure,Option.some.injEq];by_cases h1 : more = t
          ·simp [h1]
          ·by_cases h2 : nx = t
           ·simp [h1,h2]
           ·simp [h1,h2]
         ·simp only [takeIt,lk,lk_del,updR,Eff.pure]
          by_cases h1 : rid' = i
          ·simp [h1]
          ·simp [h1]
        have hfr3 : ∀ id,(takeIt nx more rid' cc.1 cc.2 fr).next≤id → σ2 id = none:=by
         intro q hq;simp only [takeIt,w32] at hq;rw [hout2 q (.inr (by rw [w32]; exact hq)),hout q (.inr (by rw [w32]; exact hq))]
         exact hfr q (by omega)
        have hext3 : ExtW Own S0 w0 S2 w':=(hext.trans hext'.w).trans hext2.w;cases hex : evalCode call n ax (takeIt nx more rid' cc.1 cc.2 fr) with
        | none => rw [hex] at hround; simp at hround
        | some q =>
         rw [hex] at hround;obtain ⟨q1,q2⟩:=q;refine wpIn_mono (ih fx hfx hro blk ax hx _ _ hex σ2 S2 w' _ hsim3 hext3 hfr3 hlent) fun e a' w'' hp => ?_
         obtain ⟨rfl,σ',S',p1,p2,p3,p4⟩:=hp;cases q1 with
         | normal =>
          simp only at hround;split at hround
          ·rename_i fr2 hn2
           obtain ⟨σ3,t1,t2,t3⟩:=norm_sound hn2 p1 hLE p4;exact ihm fr2 r hround σ3 S' w'' a' t1 p2 t2 t3
          ·cases hround
         | exit i => simp at hround; subst hround; exact ⟨rfl,σ',S',p1,p2,p3,p4⟩
         | ret => simp at hround; subst hround; exact ⟨rfl,σ',S',p1,p2,p3,p4⟩
      ·cases hit
     ·cases hit
    ·cases h
  exact key n fr1 r he σ1 S w a s1 hext s2 s3
 ·cases he
theorem code_sound2 {bor : Nat → List Nat} {hh : Hints} {call : CallF} {n : Nat} (hcall : ∀ f vs r,call f vs = some r → CallOk P f vs r.1 r.2∧Enterable P f) (hmix : P.follows .mixedOrders = true) (hLE : LE.map (·.1) = LL.map (·.1)) :
  ∀ (c : Code),CodeOk P Γ LL LE nt bor hh call n c∧∀ x y,c = .seq x y → CodeOk P Γ LL LE nt bor hh call n y:=by
 intro c;induction c with
 | skip =>
  refine ⟨?_,fun _ _ h => by cases h⟩
  intro ro dn Own FX S0 w0 fx hfx hro blk ac hc fr r he σ S w a hsim hext hfr hlent;simp [compCode] at hc; subst hc
  simp [evalCode] at he; subst he
  exact wpIn_skip ⟨rfl,σ,S,hsim,hext,hfr,hlent⟩
 | region id ops draw =>
  refine ⟨?_,fun _ _ h => by cases h⟩
  intro ro dn Own FX S0 w0 fx hfx hro blk ac hc fr r he σ S w a hsim hext hfr hlent;simp only [compCode] at hc;split at hc
  ·cases hc
  ·rename_i as has
   generalize (if draw = true then (lk id hh.befs).getD [] else []) = bef at hc
   split at hc
   ·rename_i hcond
    simp only [Option.some.injEq] at hc; subst hc
    simp only [Bool.and_eq_true] at hcond;have key : ∀ (fr : Fr) (σ : Ids),Sim P Γ Own LL FX nt σ S w (fun t=>lk t fr.tm) (fun i=>lk i fr.rows) a → (∀ id,fr.next≤id → σ id = none) → fr.lent = LE →
      evalCode call n (if (draw && as.any (fun o=>o.op.isEnt)) = true then .regionX as bef ((lk id hh.regs).getD []) else .region as draw bef ((lk id hh.regs).getD [])) fr = some r →
      (Code.region id ops draw).wpIn (FR ro) dn P (CPost P Γ Own LL FX LE nt S0 w0 r) a w:=by
     intro fr σ hsim hfr hlent he2;by_cases hd : (draw && as.any (fun o=>o.op.isEnt)) = true
     ·rw [if_pos hd] at he2
      simp only [Bool.and_eq_true] at hd;obtain ⟨rfl,_⟩:=hd;simp only [evalCode] at he2;split at he2
      ·rename_i fr' hr
       simp at he2; subst he2
       exact regionX_sound hfx hcall hmix has hcond.1 (by simpa using hcond.2) hr hsim hext hfr hlent
      ·cases he2
     ·rw [if_neg hd] at he2
      simp only [evalCode] at he2;split at he2
      ·rename_i fr' hr
       simp at he2; subst he2
       exact region_sound hfx hcall hmix has hcond.1 (fun hd=>by subst hd; simpa using hcond.2) hr hsim hext hfr hlent
      ·cases he2
    cases hm : lk id hh.meets with
    | none =>
     rw [hm] at he;simp only [meetC] at he;exact key fr σ hsim hfr hlent he
    | some kp =>
     rw [hm] at he;simp only [meetC,evalCode] at he;cases hn : norm kp fr with
     | none => rw [hn] at he; simp at he
     | some fr1 =>
      rw [hn] at he;obtain ⟨σ1,s1,s2,s3⟩:=norm_sound hn hsim hLE hlent;exact key fr1 σ1 s1 s2 s3 he
   ·cases hc
 | seq x y ihx ihy =>
  obtain ⟨ihx,_⟩:=ihx;obtain ⟨ihy,_⟩:=ihy;refine ⟨?_,fun _ _ h => by cases h; exact ihy⟩
  intro ro dn Own FX S0 w0 fx hfx hro blk ac hc fr r he σ S w a hsim hext hfr hlent;simp only [compCode] at hc;split at hc
  ·rename_i ax ay hx hy
   simp at hc; subst hc
   simp only [evalCode] at he;cases hex : evalCode call n ax fr with
   | none => rw [hex] at he; simp at he
   | some q =>
    rw [hex] at he;obtain ⟨q1,q2⟩:=q;refine wpIn_seq (wpIn_mono (ihx fx hfx hro blk ax hx fr _ hex σ S w a hsim hext hfr hlent) fun e a' w' hp => ?_)
    obtain ⟨rfl,σ',S',p1,p2,p3,p4⟩:=hp;cases q1 with
    | normal => exact ihy fx hfx hro blk ay hy q2 r he σ' S' w' a' p1 p2 p3 p4
    | exit i => simp at he; subst he; exact ⟨rfl,σ',S',p1,p2,p3,p4⟩
    | ret => simp at he; subst he; exact ⟨rfl,σ',S',p1,p2,p3,p4⟩
  ·cases hc
 | cond cnd x y ihx ihy =>
  refine ⟨?_,fun _ _ h => by cases h⟩
  obtain ⟨ihx,_⟩:=ihx;obtain ⟨ihy,_⟩:=ihy;intro ro dn Own FX S0 w0 fx hfx hro blk ac hc fr r he σ S w a hsim hext hfr hlent;simp only [compCode] at hc;split at hc
  ·rename_i c' ax ay hcc hx hy
   simp at hc; subst hc
   simp only [evalCode] at he;split at he
   ·rename_i hg
    exact wpIn_cond_true (Yp hsim.tmps hcc hg).bool_inv (ihx fx hfx hro blk ax hx fr r he σ S w a hsim hext hfr hlent)
   ·rename_i hg
    exact wpIn_cond_false (Yp hsim.tmps hcc hg).bool_inv (ihy fx hfx hro blk ay hy fr r he σ S w a hsim hext hfr hlent)
   ·cases he
  ·cases hc
 | block id x ih =>
  refine ⟨?_,fun _ _ h => by cases h⟩
  obtain ⟨ih,_⟩:=ih;intro ro dn Own FX S0 w0 fx hfx hro blk ac hc fr r he σ S w a hsim hext hfr hlent;simp only [compCode] at hc;split at hc
  ·rename_i ax hx
   simp at hc; subst hc
   simp only [evalCode] at he;cases hex : evalCode call n ax fr with
   | none => rw [hex] at he; simp at he
   | some q =>
    rw [hex] at he;obtain ⟨q1,q2⟩:=q;refine wpIn_block (wpIn_mono (ih fx hfx hro id ax hx fr _ hex σ S w a hsim hext hfr hlent) fun e a' w' hp => ?_)
    obtain ⟨rfl,σ',S',p1,p2,p3,p4⟩:=hp;cases q1 with
    | normal => simp at he; subst he; exact ⟨rfl,σ',S',p1,p2,p3,p4⟩
    | exit i =>
     simp only at he;simp only [exOf,Exit.inBlock];split
     ·rename_i hi
      rw [if_pos hi] at he;simp at he; subst he
      exact ⟨rfl,σ',S',p1,p2,p3,p4⟩
     ·rename_i hi
      rw [if_neg hi] at he;simp at he; subst he
      exact ⟨rfl,σ',S',p1,p2,p3,p4⟩
    | ret => simp at he; subst he; exact ⟨rfl,σ',S',p1,p2,p3,p4⟩
  ·cases hc
 | loop x ih =>
  refine ⟨?_,fun _ _ h => by cases h⟩
  obtain ⟨ih,ihc⟩:=ih;intro ro dn Own FX S0 w0 fx hfx hro blk ac hc fr r he σ S w a hsim hext hfr hlent;have old : ∀ (ax : ACode),compCode P bor hh nt fx blk x = some ax → evalCode call n (.loop ((lk blk hh.loops).getD []) ax) fr = some r → (Code.loop x).wpIn (FR ro) dn P (CPost P Γ Own LL FX LE nt S0 w0 r) a w:=by
   intro ax hx he;simp only [evalCode] at he;split at he
   ·rename_i fr1 hnorm
    obtain ⟨σ1,s1,s2,s3⟩:=norm_sound hnorm hsim hLE hlent;refine wpIn_loop_rounds n ?_;have key : ∀ (m : Nat) (fr : Fr) (r : AEx × Fr),loopN (evalCode call n ax) (norm ((lk blk hh.loops).getD [])) m fr = some r → ∀ (σ : Ids) (S : Nat → Prop) (w : World) (a : Act),
      Sim P Γ Own LL FX nt σ S w (fun t=>lk t fr.tm) (fun i=>lk i fr.rows) a → ExtW Own S0 w0 S w → (∀ id,fr.next≤id → σ id = none) → fr.lent = LE → Code.roundsIn (FR ro) dn P x (CPost P Γ Own LL FX LE nt S0 w0 r) m a w:=by
     intro m;induction m with
     | zero => intro fr r h; simp [loopN] at h
     | succ m ihm =>
      intro fr r h σ S w a hsim hext hfr hlent;rw [roundsIn_succ];simp only [loopN] at h;cases hex : evalCode call n ax fr with
      | none => rw [hex] at h; simp at h
      | some q =>
       rw [hex] at h;obtain ⟨q1,q2⟩:=q;refine wpIn_mono (ih fx hfx hro blk ax hx fr _ hex σ S w a hsim hext hfr hlent) fun e a' w' hp => ?_
       obtain ⟨rfl,σ',S',p1,p2,p3,p4⟩:=hp;cases q1 with
       | normal =>
        simp only at h;split at h
        ·rename_i fr2 hn2
         obtain ⟨σ2,t1,t2,t3⟩:=norm_sound hn2 p1 hLE p4;exact ihm fr2 r h σ2 S' w' a' t1 p2 t2 t3
        ·cases h
       | exit i => simp at h; subst h; exact ⟨rfl,σ',S',p1,p2,p3,p4⟩
       | ret => simp at h; subst h; exact ⟨rfl,σ',S',p1,p2,p3,p4⟩
    exact key n fr1 r he σ1 S w a s1 hext s2 s3
   ·cases he
  rcases compLoop hc with ⟨ax,hx,rfl⟩ | ⟨id,ops,c,it,nx,more,ax,rfl,hpat,hx,hdst,rfl⟩
  ·exact old ax hx he
  ·exact rangeM_sound hfx hLE (ihc _ _ rfl) hro hx hpat hdst he hsim hext hlent
 | exit id =>
  refine ⟨?_,fun _ _ h => by cases h⟩
  intro ro dn Own FX S0 w0 fx hfx hro blk ac hc fr r he σ S w a hsim hext hfr hlent;simp [compCode] at hc; subst hc
  simp [evalCode] at he; subst he
  exact wpIn_exit ⟨rfl,σ,S,hsim,hext,hfr,hlent⟩
 | ret =>
  refine ⟨?_,fun _ _ h => by cases h⟩
  intro ro dn Own FX S0 w0 fx hfx hro blk ac hc fr r he σ S w a hsim hext hfr hlent;simp [compCode] at hc; subst hc
  simp [evalCode] at he; subst he
  exact wpIn_ret ⟨rfl,σ,S,hsim,hext,hfr,hlent⟩
 | rangeFunc f ps x y ihx ihy =>
  obtain ⟨ihx,_⟩:=ihx;obtain ⟨ihy,_⟩:=ihy;exact ⟨range_sound hcall hLE ihx ihy,fun _ _ h => by cases h⟩
 | _ =>
  refine ⟨?_,fun _ _ h => by cases h⟩
  intro ro dn Own FX S0 w0 fx hfx hro blk ac hc;simp [compCode] at hc
theorem code_sound {bor : Nat → List Nat} {hh : Hints} {call : CallF} {n : Nat} (hcall : ∀ f vs r,call f vs = some r → CallOk P f vs r.1 r.2∧Enterable P f) (hmix : P.follows .mixedOrders = true) (hLE : LE.map (·.1) = LL.map (·.1)) (c : Code) : CodeOk P Γ LL LE nt bor hh call n c :=
 (code_sound2 hcall hmix hLE c).1
end
end Go.Abs
namespace Go.Abs
theorem enumFrom_lk : ∀ {vs : List AV} {i t : Nat} {x : AV},lk t (enumFrom i vs) = some x → i≤t∧vs[t - i]? = some x
 | [],i,t,x,h => by simp [enumFrom,lk] at h
 | v :: vs,i,t,x,h => by
  simp only [enumFrom,lk] at h;split at h
  ·rename_i e; subst e; simp at h; subst h; simp
  ·rename_i hne
   obtain ⟨h1,h2⟩:=enumFrom_lk h;refine ⟨by omega,?_⟩
   rw [show t - i = t - (i + 1) + 1 by omega,List.getElem?_cons_succ]
   exact h2
section
variable {P : Program} {Γ : Gam} {Own : Nat → Prop} {σ : Ids} {S : Nat → Prop} {w : World}
def LentV (τ : Ids) (S : Nat → Prop) (w : World) (v : Value) (p : Nat × Option Nat) : Prop :=
 match p.2 with
 | none => RelV τ S w v (.ptr p.1 0 0) ∨ RelV τ S w v (.yieldT p.1) ∨ RelV τ S w v (.mapp p.1)
 | some n => RelV τ S w v (.slice p.1 0 n)
def LentAt (τ : Ids) (S : Nat → Prop) (w : World) : List Value → List (Nat × Option Nat) → Prop
 | [],[] => True
 | v :: vs,p :: ps => LentV τ S w v p∧LentAt τ S w vs ps
 | _,_ => False
theorem results_run {fn : Func} {rs : List ARes} {a : Act} {tm : List (Nat × AV)} {rows : List (Nat × Row)} {vs : List AV} (hT : TmpsOk σ S w (fun t=>lk t tm) a) (hR : RowsOk P Γ Own σ S w (fun i=>lk i rows))
  (hc : mapO (compRes P) fn.results.toList = some rs) (h : mapO (resOf tm rows) rs = some vs) :
  ∃ v,(results fn a.tmps).run P w = .ok v w∧RelV σ S w v (tupled vs):=by
 have key : ∀ (l : List ResultVar) (rs : List ARes) (vs : List AV),mapO (compRes P) l = some rs → mapO (resOf tm rows) rs = some vs →
   ∃ us : List Value,(l.mapM fun (r : ResultVar) => match r with
    | .tmp t => (pure (a.tmps.getD t undef) : Sem Value)
    | .cell b t => do loadVar t (← asAddr (a.tmps.getD b undef))).run P w = .ok us w∧us.length = vs.length∧∀ (i : Nat) u x,us[i]? = some u → vs[i]? = some x → RelV σ S w u x:=by
  intro l;induction l with
  | nil =>
   intro rs vs hc h;simp [mapO] at hc; subst hc
   simp [mapO] at h; subst h
   exact ⟨[],by simp,rfl,by simp⟩
  | cons r l ih =>
   intro rs vs hc h;simp only [mapO] at hc;split at hc
   ·cases hc
   ·rename_i ar har
    split at hc
    ·cases hc
    ·rename_i ars hars
     simp at hc; subst hc
     simp only [mapO] at h;split at h
     ·cases h
     ·rename_i x hx
      split at h
      ·cases h
      ·rename_i xs hxs
       simp at h; subst h
       obtain ⟨us,u1,u2,u3⟩:=ih ars xs hars hxs;have one : ∃ u,(match r with
         | .tmp t => (pure (a.tmps.getD t undef) : Sem Value)
         | .cell b t => do loadVar t (← asAddr (a.tmps.getD b undef))).run P w = .ok u w∧RelV σ S w u x:=by
        cases r with
        | tmp t =>
         simp [compRes] at har; subst har
         exact ⟨_,rfl,hT.1 t x hx⟩
        | cell b t =>
         simp only [compRes] at har;split at har
         ·rename_i n ag hn hag
          split at har
          ·rename_i hcond
           simp at har; subst har
           simp only [resOf] at hx;split at hx
           ·rename_i id hb
            split at hx
            ·rename_i cs hrow
             obtain ⟨bb,cells,tt,hk,hh,hs,hsc,hrel⟩:=hR.ok id _ hrow;obtain ⟨b',sz',n',c',hσ,_,hv⟩:=(hT.1 b _ hb).ptr_inv;have q:=hk.symm.trans hσ;simp only [Option.some.injEq,Loc.row.injEq] at q;obtain ⟨rfl,rfl,rfl,rfl⟩:=q;obtain ⟨u,r1,r2⟩:=load_run (P:=P) (σ:=σ) (S:=S) (w:=w) (b:=bb) (o:=0) (off:=0) (f:=fun i=>cells.getD i undef) hn hag (fun h' => hcond.resolve_left (by simp [h'])) hx
              (fun i hi => by
               rw [Nat.zero_add,cell_of_row w bb _ cells tt (0,0) hh];have : i < cells.size:=by omega
               simp [this])
              (fun i c hc => by
               obtain ⟨v',hv',hrel'⟩:=hrel i c hc;have e1 : cells.getD i undef = v':=by simp [Array.getD_eq_getD_getElem?,hv']
               show RelV σ S w (cells.getD i undef) c
               rw [e1]; exact hrel')
             refine ⟨u,?_,r2⟩;show (do loadVar t (← asAddr (a.tmps.getD b undef)) : Sem Value).run P w = .ok u w
             rw [hv];simp only [Instr.loadAt,Instr.sureAddr,pure_bind] at r1;simpa [asAddr] using r1
            ·cases hx
           ·cases hx
          ·cases har
         ·cases har
       obtain ⟨u,o1,o2⟩:=one;refine ⟨u :: us,?_,by simp [u2],fun i q y hq hy => ?_⟩
       ·rw [List.mapM_cons]
        simp only [Sem.run_bind];rw [o1];simp only [Result.andThen_ok,Sem.run_bind];rw [u1];simp
       ·cases i with
        | zero => simp at hq hy; subst hq hy; exact o2
        | succ i => simp at hq hy; exact u3 i q y hq hy
 obtain ⟨us,u1,u2,u3⟩:=key _ rs vs hc h;have hm : (fn.results.mapM fun (r : ResultVar) => match r with
    | .tmp t => (pure (a.tmps.getD t undef) : Sem Value)
    | .cell b t => do loadVar t (← asAddr (a.tmps.getD b undef))).run P w = .ok us.toArray w:=by
  rw [Array.mapM_eq_mapM_toList];simp only [Sem.run_map];rw [u1];simp
 refine ⟨if h : us.toArray.size = 1 then us.toArray[0] else .tuple us.toArray,?_,?_⟩
 ·unfold results
  rw [Sem.run_bind];refine Eq.trans (congrArg (fun r=>Result.andThen r _) hm) ?_
  simp only [Result.andThen_ok];split <;> rfl
 ·match vs,us,u2 with
  | [x],[u],_ => simp only [List.size_toArray,List.length_singleton,dite_true,tupled]; exact u3 0 u x rfl rfl
  | [],[],_ => exact .tuple #[] [] rfl (by simp)
  | x :: y :: vs,u :: u' :: us,hl =>
   have : ¬ (u :: u' :: us).toArray.size = 1:=by simp
   rw [dif_neg this];exact .tuple _ _ (by simpa using hl) fun i q c hq hc => u3 i q c (by simpa using hq) hc
end
end Go.Abs
namespace Go.Abs
section
variable {P : Program} {Γ : Gam} {Own : Nat → Prop} {σ : Ids} {S : Nat → Prop} {w : World} {R : Nat → Option Row}
theorem imArgs_lent : ∀ {vs : List Value} {as : List AV} {bs : List Nat} {n : Nat} {τ : Ids},LiftL (ArgR P Γ S w) vs as bs →
  (∀ (i : Nat) v c,vs[i]? = some v → (imArgs n as).1[i]? = some c → RelV τ S w v c) → LentAt τ S w (lentVals vs as) (imArgs n as).2.2.1
 | [],[],_,n,τ,_,_ => by simp [lentVals,imArgs,LentAt]
 | v :: vs,a :: as,bs,n,τ,h,hr => by
  obtain ⟨b1,b2,h1,h2,_⟩:=h;have h0:=hr 0 v (imArg n a).1 rfl (by simp [imArgs])
  have ih:=imArgs_lent (n:=(imArg n a).2.2) (τ:=τ) h2 fun i v c hv hc => hr (i + 1) v c (by simpa using hv) (by simpa [imArgs] using hc)
  cases a with
  | bor cs =>
   simp only [lentVals,AV.isLent,if_true,imArgs];exact ⟨.inl h0,ih⟩
  | borS sz es =>
   simp only [lentVals,AV.isLent,if_true,imArgs];exact ⟨h0,ih⟩
  | ylog k xs =>
   simp only [lentVals,AV.isLent,if_true,imArgs];exact ⟨.inr (.inl h0),ih⟩
  | borM ks keys vals =>
   simp only [lentVals,AV.isLent,if_true,imArgs];exact ⟨.inr (.inr h0),ih⟩
  | _ => simpa [lentVals,AV.isLent,imArgs] using ih
 | [],_ :: _,_,_,_,h,_ => h.elim
 | _ :: _,[],_,_,_,h,_ => h.elim
theorem exCell_rows {a : AV} {x : Ex} (h : exCell R a = some x) : ∀ i ∈ x.mv,∃ r,R i = some r:=by
 unfold exCell at h;split at h
 ·simp at h; subst h; simp
 ·split at h
  ·rename_i hr
   split at h
   ·simp at h; subst h; intro i hi; simp at hi; subst hi; exact ⟨_,hr⟩
   ·split at h
    ·simp at h; subst h; intro i hi; simp at hi; subst hi; exact ⟨_,hr⟩
    split at h
    ·simp at h; subst h; simp
    ·cases h
  ·cases h
 ·cases h
 ·cases h
 ·simp at h; subst h; simp
 ·split at h
  ·rename_i hr
   split at h
   ·simp at h; subst h; intro i hi; simp at hi; subst hi; exact ⟨_,hr⟩
   ·cases h
  ·cases h
 ·split at h
  ·rename_i hr
   split at h
   ·simp at h; subst h; intro i hi; simp at hi; subst hi; exact ⟨_,hr⟩
   ·cases h
  ·cases h
 ·split at h
  ·simp at h; subst h; simp
  ·cases h
theorem exL_rows {f : AV → Option Ex} (hf : ∀ a x,f a = some x → ∀ i ∈ x.mv,∃ r,R i = some r) : ∀ {as : List AV} {r : List AV × List Nat × List Nat},exL f as = some r → ∀ i ∈ r.2.1,∃ q,R i = some q
 | [],r,h => by simp [exL] at h; subst h; simp
 | a :: as,r,h => by
  simp only [exL] at h;split at h
  ·cases h
  ·rename_i x hx
   split at h
   ·cases h
   ·rename_i ys m z hy
    simp at h; subst h
    intro i hi;rcases List.mem_append.1 hi with hi | hi
    ·exact hf a x hx i hi
    ·exact exL_rows hf hy i hi
theorem exItem_rows {a : AV} {x : Ex} (h : exItem R a = some x) : ∀ i ∈ x.mv,∃ r,R i = some r:=by
 unfold exItem at h;split at h
 ·split at h
  ·rename_i hx
   simp at h; subst h
   exact exL_rows (fun a x h => exCell_rows h) hx
  ·cases h
 ·exact exCell_rows h
theorem exRes_rows {a : AV} {x : Ex} (h : exRes R a = some x) : ∀ i ∈ x.mv,∃ r,R i = some r:=by
 unfold exRes at h;split at h
 ·split at h
  ·rename_i hx
   simp at h; subst h
   exact exL_rows (fun a x h => exItem_rows h) hx
  ·cases h
 ·exact exItem_rows h
theorem exOuts_sound {rows : List (Nat × Row)} (hR : RowsOk P Γ Own σ S w (fun i=>lk i rows)) : ∀ {ids : List (Nat × Option Nat)} {vs : List Value} {r : List AV × List Nat × List Nat},exOuts (exOut rows) ids = some r → LentAt σ S w vs ids →
  LiftL (ArgR P Γ (Locked σ S (fun i=>lk i rows) r.2.2) w) vs r.1 (blocksOf σ r.2.1)∧∀ i ∈ r.2.1,∃ q,lk i rows = some q
 | [],[],r,h,_ => by simp [exOuts] at h; subst h; simp [LiftL,blocksOf]
 | id :: ids,v :: vs,r,h,hl => by
  obtain ⟨h1,h2⟩:=hl;simp only [exOuts] at h;split at h
  ·cases h
  ·rename_i x hx
   split at h
   ·cases h
   ·rename_i ys m z hy
    simp at h; subst h
    obtain ⟨g1,g2⟩:=exOuts_sound hR hy h2;have mapOut : ∀ {row : Row} {ks : List Bool} {keys : List (List AV)} {vals : List AV},lk id.1 rows = some row → row.asM = some (ks,keys,vals) → (RelV σ S w v (.ptr id.1 0 0) ∨ RelV σ S w v (.yieldT id.1) ∨ RelV σ S w v (.mapp id.1)) →
      ArgR P Γ (Locked σ S (fun i=>lk i rows) []) w v (.borM ks keys vals) (blocksOf σ [id.1])∧∀ i ∈ [id.1],∃ q,lk i rows = some q:=by
     intro row ks keys vals hrow ha h1;obtain ⟨r0,es,clock,k1,hh,he⟩:=asM_ok (hR.ok _ _ hrow) ha;refine ⟨⟨r0,es,clock,?_,by simp [blocksOf,k1,locB,Loc.blocks],hh,he⟩,fun i hi => by simp at hi; subst hi; exact ⟨_,hrow⟩⟩
     rcases h1 with h1 | h1 | h1
     ·cases h1 with
      | imm h => cases h
      | ptr _ _ _ _ _ _ _ h => rw [k1] at h; cases h
     ·cases h1 with
      | imm h => cases h
      | yieldV _ _ h => rw [k1] at h; cases h
     ·cases h1 with
      | imm h => cases h
      | mapp _ _ h => rw [k1] at h; cases h; rfl
    have one : ArgR P Γ (Locked σ S (fun i=>lk i rows) x.fz) w v x.v (blocksOf σ x.mv)∧∀ i ∈ x.mv,∃ q,lk i rows = some q:=by
     unfold exOut at hx;unfold LentV at h1;split at hx
     ·rename_i cs hp hrow
      rw [hp] at h1;have h1:=h1.resolve_right fun hv=>by
       obtain ⟨b,cells,t,hk,_⟩:=hR.ok _ _ hrow;rcases hv with hv | hv
       ·cases hv with
        | imm h => cases h
        | yieldV _ _ h => rw [hk] at h; cases h
       ·cases hv with
        | imm h => cases h
        | mapp _ _ h => rw [hk] at h; cases h
      split at hx
      ·rename_i cs' m' z' hex
       simp at hx; subst hx
       refine ⟨exBox_sound hR hrow hex h1,fun i hi => ?_⟩
       rcases List.mem_cons.1 hi with rfl | hi
       ·exact ⟨_,hrow⟩
       ·exact exL_rows (R:=fun i=>lk i rows) (fun a x h => exCell_rows h) hex i hi
      ·cases hx
     ·rename_i m' hp hrow
      rw [hp] at h1;obtain ⟨l,C,k1,k2⟩:=hR.ok _ _ hrow;have h1:=(h1.resolve_left fun hv=>by
       cases hv with
       | imm h => cases h
       | ptr _ _ _ _ _ _ _ h => rw [k1] at h; cases h).resolve_right fun hv=>by
       cases hv with
       | imm h => cases h
       | mapp _ _ h => rw [k1] at h; cases h
      split at hx
      ·rename_i k xs hm
       simp only [Option.some.injEq] at hx; subst hx
       obtain ⟨l',C',q3,hg,hn,hlt,hkp,hgam⟩:=hR.ok _ _ hm;rw [k2] at q3;simp only [Option.some.injEq,Loc.gen.injEq] at q3;obtain ⟨rfl,rfl⟩:=q3;have e : blocksOf σ [id.1,m'] = C:=by simp [blocksOf,k1,k2,locB,Loc.blocks]
       have hv : v = .func (.yield l) #[] #[]:=by
        cases h1 with
        | imm h => cases h
        | yieldV _ l2 h2 =>
         rw [k1] at h2;simp only [Option.some.injEq,Loc.tag.injEq] at h2;subst h2; rfl
       refine ⟨by rw [e]; exact ⟨l,hv,hg,hn,hlt,hkp,hkp.up hgam fun _ h => .inl h⟩,fun i hi => ?_⟩
       simp only [List.mem_cons,List.not_mem_nil,or_false] at hi;rcases hi with rfl | rfl
       ·exact ⟨_,hrow⟩
       ·exact ⟨_,hm⟩
      ·cases hx
     ·rename_i ks keys vals hp hrow
      rw [hp] at h1;split at hx
      ·rename_i ha
       simp only [Option.some.injEq] at hx; subst hx
       exact mapOut hrow ha h1
      ·cases hx
     ·rename_i k kv hp hrow
      rw [hp] at h1;split at hx
      ·rename_i ha
       simp only [Option.some.injEq] at hx; subst hx
       exact mapOut hrow ha h1
      ·cases hx
     ·rename_i n sz es hp hrow
      rw [hp] at h1;split at hx
      ·rename_i hn
       simp at hx; subst hx
       exact ⟨(row_own hR hrow rfl hn.symm h1).lock,fun i hi => by simp at hi; subst hi; exact ⟨_,hrow⟩⟩
      ·cases hx
     ·cases hx
    refine ⟨⟨_,_,one.1.mono (Locked.weaken fun i hi => List.mem_append_left _ hi),g1.mono fun _ _ _ => ArgR.mono (Locked.weaken fun i hi => List.mem_append_right _ hi),by simp [blocksOf_append]⟩,fun i hi => ?_⟩
    rcases List.mem_append.1 hi with hi | hi
    ·exact one.2 i hi
    ·exact g2 i hi
 | [],_ :: _,_,_,h => h.elim
 | _ :: _,[],_,_,h => h.elim
theorem shut_all {fn : Func} : ∀ (Ds : List Nat) (w : World),Ds.Nodup → (∀ D ∈ Ds,w.heap[D]? = some (.deferred (some []))) → ∃ w' : World,
  (∀ (tmps : Array Value) (R : Ending → World → Prop) (n : Nat),(∃ v,(results fn tmps).run P w' = .ok v w'∧R (.returned v) w') → LeavesInM (FR none) n P fn tmps R (Ds.map markOf) .returning w) ∧
  (∀ T : Nat → Prop,Stay T w w')∧(∀ b,b ∉ Ds → w'.heap[b]? = w.heap[b]?)∧Same w w'
 | [],w,_,_ => ⟨w,fun _ _ _ h => h,fun T=>Stay.refl T w,fun _ _ => rfl,Same.refl w⟩
 | D :: Ds,w,hn,h => by
  have hD:=h D (by simp)
  obtain ⟨hn1,hn2⟩:=List.nodup_cons.1 hn;obtain ⟨w',g1,g2,g3,g4⟩:=shut_all (fn:=fn) Ds (w.putObj D (.deferred none)) hn2 fun D' hD' => by
   rw [World.putObj_heap_other (fun e : D' = D => hn1 (e ▸ hD'))]
   exact h D' (List.mem_cons_of_mem _ hD')
  refine ⟨w',fun tmps R n hr => ⟨by simp,.inl ⟨D,_,rfl,run_takeDeferred hD,g1 tmps R n hr⟩⟩,fun T=>(Stay.put _ hD (by intro cs t d h; cases h) (by intro es c h; cases h)).trans (fun _ h => h) (g2 T),fun b hb => ?_,?_⟩
  ·simp only [List.mem_cons,not_or] at hb
   rw [g3 b hb.2,World.putObj_heap_other hb.1]
  ·exact ⟨g4.os,g4.tape,g4.output,by have:=g4.size; simpa using this⟩
theorem func_sound {bor : Nat → List Nat} {hh : Hints} {fn : Func} {afn : AFn} {f n : Nat} {call : CallF} {args : List AV} {r : AV × List AV} (hcall : ∀ f vs r,call f vs = some r → CallOk P f vs r.1 r.2∧Enterable P f) (hmix : P.follows .mixedOrders = true)
  (hf : P.funcs[f]? = some fn) (hc : compFn P bor hh fn = some afn) (he : evalFn call n afn args = some r) : CallOk P f args r.1 r.2∧Enterable P f:=by
 unfold compFn at hc;split at hc
 ·cases hc
 ·rename_i c hbody
  split at hc
  ·rename_i ac rs hac hrs
   split at hc
   ·rename_i hcond
    simp only [Option.some.injEq] at hc; subst hc
    refine ⟨?_,fn,hf,by simp [hbody],hcond.2⟩
    unfold evalFn at he;split at he
    ·rename_i hargs
     simp only at hargs;intro Γ S w vs bs hA hnd hbs hold hG;obtain ⟨τ,i1,i2,i3⟩:=imArgs_sound entryBase hA;have hlent:=imArgs_lent (n:=entryBase) (τ:=τ) hA i3;have hvl : vs.length≤fn.ntmps:=by rw [hA.length,hargs.1]; exact hcond.1
     let Own : Nat → Prop:=fun b=>w.heap.size≤b ∨ b ∈ bs
     let LE:=(imArgs entryBase args).2.2.1
     let LL : List (Nat × Loc):=LE.map fun p=>(p.1,(τ p.1).getD .virt)
     have hLE : LE.map (·.1) = LL.map (·.1):=by simp [LL]
     have hsome : ∀ (vs : List Value) (ps : List (Nat × Option Nat)),LentAt τ S w vs ps → ∀ p ∈ ps,τ p.1 = some ((τ p.1).getD .virt):=by
      intro vs ps;induction ps generalizing vs with
      | nil => simp
      | cons q ps ih =>
       intro h p hp;cases vs with
       | nil => exact h.elim
       | cons v vs =>
        rcases List.mem_cons.1 hp with rfl | hp
        ·have h1:=h.1
         unfold LentV at h1;split at h1
         ·rcases h1 with h1 | h1 | h1
          ·obtain ⟨b,sz,n,c,hσ,_⟩:=h1.ptr_inv; rw [hσ]; rfl
          ·cases h1 with
           | imm h => cases h
           | yieldV _ _ hσ => rw [hσ]; rfl
          ·cases h1 with
           | imm h => cases h
           | mapp _ _ hσ => rw [hσ]; rfl
         ·rcases h1.slice_inv with ⟨hσ,_⟩ | ⟨b,sz,n,c,cap,a,hσ,_⟩ <;> rw [hσ] <;> rfl
        ·exact ih vs h.2 p hp
     have hsim : Sim P Γ Own LL (fun _=>none) fn.ntmps τ S w (fun t=>lk t (enter args).tm) (fun i=>lk i (enter args).rows) { tmps:=vs.toArray ++ Array.replicate (fn.ntmps - vs.toArray.size) undef,defers:=[] }:=by
      refine ⟨⟨fun t x hx => ?_,hG⟩,⟨i1.ok,fun id r b hr hb => ⟨(hbs b (i1.blk id b hb)).1,.inr (i1.blk id b hb)⟩,fun id id' r r' b _ _ hb hb' => i1.inj hnd id id' b hb hb',hold⟩,by simp; omega,⟨[],rfl,List.nodup_nil,by simp⟩,(fun _ _ h => by cases h),fun b hb => .inl hb,fun p hp => ?_⟩
      ·obtain ⟨_,h2⟩:=enumFrom_lk hx
       simp only [Nat.sub_zero] at h2;have hlt : t < vs.length:=by rw [i2]; exact (List.getElem?_eq_some_iff.1 h2).1
       have : (vs.toArray ++ Array.replicate (fn.ntmps - vs.toArray.size) undef).getD t undef = vs[t]:=by
        rw [Array.getD_eq_getD_getElem?,Array.getElem?_append_left (by simpa using hlt)]
        simp [hlt]
       show RelV τ S w ((vs.toArray ++ Array.replicate (fn.ntmps - vs.toArray.size) undef).getD t undef) x
       rw [this];exact i3 t _ x (List.getElem?_eq_getElem hlt) h2
      ·obtain ⟨q,hq,rfl⟩:=List.mem_map.1 hp
       exact hsome _ _ hlent q hq
     have fin : ∀ (ex : AEx) (fr' : Fr),evalCode call n ac (enter args) = some (ex,fr') → (ex = .normal ∨ ex = .ret) → finish ⟨fn.params.size + fn.nfree,rs,ac⟩ fr' = some r →
       Calls P f vs.toArray w (CallPost P Γ S w bs (lentVals vs args) r.1 r.2):=by
      intro ex fr' hev hex hfin;refine (callsIn_wide (n:=0)).1 (callsIn_of_wp_marks hf hbody trivial (wpIn_mono (code_sound (ro:=none) (dn:=0) (Own:=Own) (FX:=fun _=>none) (S0:=S) (w0:=w) (LE:=LE) hcall hmix hLE c [] (fun _ _ h => by cases h) (fun _ h => by cases h) 0 ac hac (enter args) _ hev τ S w _ hsim (ExtW.refl ..) (fun id hid => ?_) rfl) fun e a' w1 hp => ?_))
      ·cases hq : τ id with
       | none => rfl
       | some l => have:=i1.dom id l hq; have:=hargs.2; simp only [enter] at hid; omega
      ·obtain ⟨rfl,σ',S',s1,s2,s3,s4⟩:=hp
       simp only at s1 s3 s4;obtain ⟨Ds,hDs,hDn,hD⟩:=s1.marks;have hnoS : ∀ b,Own b → ¬ S b:=by
        rintro b (h | h) hS
        ·have:=hold b hS; omega
        ·exact (hbs b h).1 hS
       obtain ⟨w',g1,g2,g3,g4⟩:=shut_all (P:=P) (fn:=fn) Ds w1 hDn fun D hm => (hD D hm).2.2
       have s5 : TmpsOk σ' S' w' (fun t=>lk t fr'.tm) a':=s1.tmps.stay (fun _ h => h) (g2 S') fun _ _ _ => rfl
       have s6 : RowsOk P Γ Own σ' S' w' (fun i=>lk i fr'.rows):=s1.rows.stay (fun _ h _ => h) (fun _ h => h) (g2 S') g4.size
        (fun id r b hr hb => ⟨g3 b fun hm=>(s1.rows.apart id r b hr hb).1 (hD b hm).2.1,(s1.rows.apart id r b hr hb).1⟩) (fun b hb => Nat.lt_of_lt_of_le (s1.rows.old b hb) g4.size)
       have s7 : ExtW Own S w S' w':=⟨s2.imm,fun b hb => (g3 b fun hm=>hnoS b (hD b hm).1 hb).trans (s2.keep b hb),fun b hb => (g3 b fun hm=>hb (hD b hm).1).trans (s2.frame b hb),s2.same.trans g4,s2.bound⟩
       have s8:=s1.lent
       suffices hfinal : ∃ v,(results fn a'.tmps).run P w' = .ok v w'∧CallPost P Γ S w bs (lentVals vs args) r.1 r.2 (.returned v) w' by
        have hlv : LeavesInM (FR none) 0 P fn a'.tmps (CallPost P Γ S w bs (lentVals vs args) r.1 r.2) a'.defers .returning w1:=by
         rw [hDs];exact g1 _ _ _ hfinal
        rcases hex with rfl | rfl
        ·exact hlv
        ·exact hlv
       unfold finish at hfin;split at hfin
       ·cases hfin
       ·rename_i xs hxs
        split at hfin
        ·cases hfin
        ·rename_i x hx
         split at hfin
         ·cases hfin
         ·rename_i os m z hos
          split at hfin
          ·rename_i hnd2
           simp only [Bool.and_eq_true] at hnd2;simp only [Option.some.injEq] at hfin; subst hfin
           obtain ⟨v,v1,v2⟩:=results_run (P:=P) s5 s6 hrs hxs;have hres:=exRes_sound s6 hx v2;have hxr:=exRes_rows hx;rw [s4] at hos;have hl2 : LentAt σ' S' w' (lentVals vs args) LE:=by
            have step : ∀ (us : List Value) (ps : List (Nat × Option Nat)),(∀ p ∈ ps,σ' p.1 = τ p.1) → LentAt τ S w us ps → LentAt σ' S' w' us ps:=by
             intro us ps;induction ps generalizing us with
             | nil => intro _ h; cases us <;> first | trivial | exact h.elim
             | cons p ps ih =>
              intro hp h;cases us with
              | nil => exact h.elim
              | cons u us =>
               refine ⟨?_,ih us (fun q hq => hp q (List.mem_cons_of_mem _ hq)) h.2⟩
               have h1:=h.1;have hpe:=hp p (by simp)
               unfold LentV at h1 ⊢;split at h1
               ·rcases h1 with h1 | h1 | h1
                ·obtain ⟨b,sz,k,c,hσ,hlt,rfl⟩:=h1.ptr_inv
                 exact .inl (.ptr _ _ _ b sz k c (hpe.trans hσ) hlt)
                ·cases h1 with
                 | imm h => cases h
                 | yieldV _ l hσ => exact .inr (.inl (.yieldV _ l (hpe.trans hσ)))
                ·cases h1 with
                 | imm h => cases h
                 | mapp _ l hσ => exact .inr (.inr (.mapp _ l (hpe.trans hσ)))
               ·rcases h1.slice_inv with ⟨hσ,_,rfl,a,rfl⟩ | ⟨b,sz,k,c,cap,a,hσ,q1,q2,q3,q4,rfl⟩
                ·exact .sliceV _ a (hpe.trans hσ)
                ·exact .slice _ _ _ cap b sz k c a (hpe.trans hσ) q1 q2 q3 q4
            refine step _ _ (fun p hp => ?_) hlent
            have:=s8 (p.1,(τ p.1).getD .virt) (List.mem_map_of_mem (f:=fun p : Nat × Option Nat => (p.1,(τ p.1).getD .virt)) hp)
            rw [this,← hsome _ _ hlent p hp]
           obtain ⟨o1,o2⟩:=exOuts_sound s6 hos hl2;simp only at o1 o2;have hallrows : ∀ i ∈ x.mv ++ m,∃ q,lk i fr'.rows = some q:=fun i hi => by
            rcases List.mem_append.1 hi with hi | hi
            ·exact hxr i hi
            ·exact o2 i hi
           have hpost : CallPost P Γ S w bs (lentVals vs args) x.v os (.returned v) w':=by
            refine ⟨v,Locked σ' S' (fun i=>lk i fr'.rows) (x.fz ++ z),blocksOf σ' x.mv,blocksOf σ' m,rfl,hres.mono (Locked.weaken fun i hi => List.mem_append_left _ hi),o1.mono fun _ _ _ => ArgR.mono (Locked.weaken fun i hi => List.mem_append_right _ hi),?_,fun b hb => ?_,fun b hb => .inl (s7.imm b hb),fun b hb => ⟨?_,?_⟩,fun b h1 h2 => s7.frame b ?_,s7.same⟩
            ·rw [← blocksOf_append]; exact blocksOf_nodup s6 hnd2.1 hallrows
            ·rw [← blocksOf_append] at hb
             obtain ⟨j,hj,hjb⟩:=mem_blocksOf hb;obtain ⟨q,hq⟩:=hallrows j hj;obtain ⟨a1,a2⟩:=s6.apart j q b hq hjb;refine ⟨?_,a2,s6.lt hq hjb⟩;rintro (h1 | ⟨k,hk,⟨q',hq'⟩,hkb⟩)
             ·exact a1 h1
             ·have e:=s6.inj j k q q' b hq hq' hjb hkb
              subst e;exact disj_mem hnd2.2 hj hk
            ·rcases hb with hb | ⟨k,_,⟨q',hq'⟩,hkb⟩
             ·rcases s7.bound b hb with h1 | h1
              ·exact .inl h1
              ·exact .inr h1
             ·exact .inr (s6.apart k q' b hq' hkb).2
            ·rcases hb with hb | ⟨k,_,⟨q',hq'⟩,hkb⟩
             ·exact s6.old b hb
             ·exact s6.lt hq' hkb
            ·rintro (h3 | h3)
             ·omega
             ·exact h2 h3
           exact ⟨v,v1,hpost⟩
          ·cases hfin
     split at he
     ·rename_i fr' hev; exact fin _ fr' hev (.inl rfl) he
     ·rename_i fr' hev; exact fin _ fr' hev (.inr rfl) he
     ·cases he
    ·cases he
   ·cases hc
  ·cases hc
def ExtOk (P : Program) (f : Nat) (afn : AFn) : Prop:=∀ (call : CallF) (n : Nat) (args : List AV) (r : AV × List AV),evalFn call n afn args = some r → CallOk P f args r.1 r.2∧Enterable P f
theorem call_ok {bor : Nat → List Nat} {F : Nat → Option AFn} (hmix : P.follows .mixedOrders = true) (hF : ∀ f afn,F f = some afn → (∃ fn hh,P.funcs[f]? = some fn∧compFn P bor hh fn = some afn) ∨ ExtOk P f afn) :
  ∀ (n : Nat) (f : Nat) (args : List AV) (r : AV × List AV),evalCall F n f args = some r → CallOk P f args r.1 r.2∧Enterable P f
 | 0,_,_,_,h => by simp [evalCall] at h
 | n + 1,f,args,r,h => by
  simp only [evalCall] at h;split at h
  ·rename_i afn hafn
   rcases hF f afn hafn with ⟨fn,hh,h1,h2⟩ | hx
   ·exact func_sound (fun f vs r h => call_ok hmix hF n f vs r h) hmix h1 h2 h
   ·exact hx _ _ _ _ h
  ·cases h
end
end Go.Abs
