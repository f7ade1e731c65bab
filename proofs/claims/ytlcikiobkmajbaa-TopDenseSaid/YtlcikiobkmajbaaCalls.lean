/-
 What is handed over at a call: values that own blocks; how rows are handed over, and how they are taken in.
 How rows are taken in: behind a call, and at a function's entry.
 The step of a call.
 The step of a call, second part.
 The step of a call, third part: what nobody could have kept; the step itself.
 The step of any operation.
-/
import Derived.Great.FillDense
import Derived.Test.YtlcikiobkmajbaaOpsM
set_option linter.all false
namespace Go.Abs
def OwnS (S : Nat → Prop) (w : World) (v : Value) (sz : Nat) (es : List AV) (bs : List Nat) : Prop :=
 (∃ a,v = .slice a 0 0∧es = []) ∨
 ∃ b cap cs t,v = .slice (some ⟨b,0,none⟩) es.length cap∧bs = [b]∧w.heap[b]? = some (.cells cs t (0,0))∧cap * sz≤cs.size∧es.length≤cap∧0 < cap∧cap≤maxLen∧0 < sz ∧
  (∀ e ∈ es,Elem sz e)∧∀ (i : Nat) x,(flat es)[i]? = some x → ∃ u,cs[i]? = some u∧RelI S w u x
def OwnTab (w : World) (v : Value) (sz : Nat) (es : List AV) (bs : List Nat) : Prop :=
 (∃ a,v = .slice a 0 0∧es = []) ∨ ∃ b c inn,TabAt w (.tab b sz es.length c inn) sz es∧v = .slice (some ⟨b,0,none⟩) es.length c∧bs = (Loc.tab b sz es.length c inn).blocks
def EntM (ks : List Bool) (es : Array MapEntry) (clock : Nat) (keys : List (List AV)) (vals : List AV) : Prop:=match ks with
 | [] => es.size = (kvOf keys vals).length∧∀ (i : Nat) x,(kvOf keys vals)[i]? = some x → ∃ e,es[i]? = some e∧e.key = .int .i64 x.1∧e.val = x.2.toVal2∧x.2.mpVal = true
 | b :: ks => EntP (b :: ks) es clock keys vals
theorem mapRow_ok {P : Program} {Γ : Gam} {σ : Ids} {S : Nat → Prop} {w : World} {id r : Nat} {es : Array MapEntry} {clock : Nat} {ks : List Bool} {keys : List (List AV)} {vals : List AV} (h1 : σ id = some (.map r)) (h2 : w.heap[r]? = some (.map es clock)) (h3 : EntM ks es clock keys vals) : RowOk P Γ σ S w id (mapRow ks keys vals):=by
 cases ks with
 | nil =>
  obtain ⟨q1,q2⟩:=h3;refine ⟨r,es,clock,h1,h2,q1,fun i x hx => ?_⟩
  obtain ⟨e,p1,p2,p3,p4⟩:=q2 i x hx;exact ⟨e,p1,p2,by rw [p3]; exact mp_rel p4,p4⟩
 | cons b ks => exact ⟨r,es,clock,h1,h2,h3⟩
theorem asM_ok {P : Program} {Γ : Gam} {σ : Ids} {S : Nat → Prop} {w : World} {id : Nat} {row : Row} {ks : List Bool} {keys : List (List AV)} {vals : List AV} (h : RowOk P Γ σ S w id row) (hm : row.asM = some (ks,keys,vals)) : ∃ r es clock,σ id = some (.map r)∧w.heap[r]? = some (.map es clock)∧EntM ks es clock keys vals:=by
 unfold Row.asM at hm;split at hm
 ·rename_i k kv
  split at hm
  ·rename_i hk
   subst hk;simp only [Option.some.injEq,Prod.mk.injEq] at hm;obtain ⟨rfl,rfl,rfl⟩:=hm;obtain ⟨r,es,clock,q1,q2,q3,q4⟩:=h;refine ⟨r,es,clock,q1,q2,?_⟩;unfold EntM;rw [kvOf_kv];refine ⟨q3,fun i x hx => ?_⟩
   obtain ⟨e,p1,p2,p3,p4⟩:=q4 i x hx;exact ⟨e,p1,p2,mp_val (σ:=σ) p4 (.imm p3),p4⟩
  ·cases hm
 ·simp only [Option.some.injEq,Prod.mk.injEq] at hm
  obtain ⟨rfl,rfl,rfl⟩:=hm;exact h
 ·cases hm
def OwnM (w : World) (v : Value) (ks : List Bool) (keys : List (List AV)) (vals : List AV) (bs : List Nat) : Prop :=
 ∃ r es clock,v = .map (some r)∧bs = [r]∧w.heap[r]? = some (.map es clock)∧EntM ks es clock keys vals
def OwnC (S : Nat → Prop) (w : World) (v : Value) (a : AV) (bs : List Nat) : Prop :=
 match a with
 | .own sz es => OwnS S w v sz es bs
 | .ownM ks keys vals => OwnM w v ks keys vals bs
 | .ownT sz es => OwnTab w v sz es bs
 | a => bs = []∧RelI S w v a
def AV.boxed (x : AV) : Prop:=x.scalar = true ∨ (∃ sz es,x = .own sz es) ∨ (∃ ks keys vals,x = .ownM ks keys vals) ∨ ∃ sz es,x = .ownT sz es
def LiftL (Rel : Value → AV → List Nat → Prop) : List Value → List AV → List Nat → Prop
 | [],[],bs => bs = []
 | v :: vs,a :: as,bs => ∃ b1 b2,Rel v a b1∧LiftL Rel vs as b2∧bs = b1 ++ b2
 | _,_,_ => False
def OwnI (S : Nat → Prop) (w : World) (v : Value) (a : AV) (bs : List Nat) : Prop :=
 match a with
 | .agg cs => ∃ vs,v = .agg vs∧LiftL (OwnC S w) vs.toList cs bs
 | a => OwnC S w v a bs
def OwnR (S : Nat → Prop) (w : World) (v : Value) (a : AV) (bs : List Nat) : Prop :=
 match a with
 | .tuple as => ∃ vs,v = .tuple vs∧LiftL (OwnI S w) vs.toList as bs
 | a => OwnI S w v a bs
def ArgR (P : Program) (Γ : Gam) (S : Nat → Prop) (w : World) (v : Value) (a : AV) (bs : List Nat) : Prop :=
 match a with
 | .bor cs => ∃ b cells t bs',v = .pointer (some ⟨b,0,none⟩)∧bs = b :: bs'∧w.heap[b]? = some (.cells cells t (0,0))∧cells.size = cs.length∧LiftL (OwnC S w) cells.toList cs bs' ∧
   ∀ x ∈ cs,x.boxed
 | .borS sz es => OwnS S w v sz es bs
 | .own sz es => OwnS S w v sz es bs
 | .borM ks keys vals => OwnM w v ks keys vals bs
 | .ylog k xs => ∃ l,v = .func (.yield l) #[] #[]∧GoodY P l (Γ l)∧bs.Nodup∧(∀ b ∈ bs,b < w.heap.size)∧Keep (Γ l)∧Γ l k xs bs S w
 | a => bs = []∧RelI S w v a
section
variable {P : Program} {Γ : Gam} {Own : Nat → Prop} {σ : Ids} {S : Nat → Prop} {w : World} {R : Nat → Option Row}
theorem LiftL.length {Rel : Value → AV → List Nat → Prop} : ∀ {vs : List Value} {as : List AV} {bs : List Nat},LiftL Rel vs as bs → vs.length = as.length
 | [],[],_,_ => rfl
 | _ :: _,_ :: _,_,h => by obtain ⟨_,_,_,h2,_⟩:=h; simp [h2.length]
 | [],_ :: _,_,h => h.elim
 | _ :: _,[],_,h => h.elim
theorem LiftL.mono {Rel Rel' : Value → AV → List Nat → Prop} (hr : ∀ v a bs,Rel v a bs → Rel' v a bs) : ∀ {vs : List Value} {as : List AV} {bs : List Nat},LiftL Rel vs as bs → LiftL Rel' vs as bs
 | [],[],_,h => h
 | _ :: _,_ :: _,_,h => by obtain ⟨b1,b2,h1,h2,h3⟩:=h; exact ⟨b1,b2,hr _ _ _ h1,h2.mono hr,h3⟩
 | [],_ :: _,_,h => h.elim
 | _ :: _,[],_,h => h.elim
def locB : Option Loc → List Nat
 | some l => l.blocks
 | none => []
def blocksOf (σ : Ids) (ids : List Nat) : List Nat:=ids.flatMap fun id=>locB (σ id)
theorem blocksOf_append (σ : Ids) (a b : List Nat) : blocksOf σ (a ++ b) = blocksOf σ a ++ blocksOf σ b:=by simp [blocksOf]
theorem mem_blocksOf {ids : List Nat} {b : Nat} (h : b ∈ blocksOf σ ids) : ∃ id ∈ ids,Loc.has (σ id) b:=by
 simp only [blocksOf,List.mem_flatMap] at h;obtain ⟨id,hid,hb⟩:=h;refine ⟨id,hid,?_⟩;cases hσ : σ id with
 | none => simp [hσ,locB] at hb
 | some l => rw [hσ] at hb; exact ⟨l,rfl,hb⟩
theorem row_own {id off len sz : Nat} {es : List AV} {v : Value} (hR : RowsOk P Γ Own σ S w R) (hr : R id = some (.arr sz es)) (h0 : off = 0) (hl : len = es.length) (hv : RelV σ S w v (.slice id off len)) :
  OwnS S w v sz es (blocksOf σ [id]):=by
 subst h0;rcases hR.ok id _ hr with ⟨hk,rfl⟩ | ⟨b,c,cs,t,hk,hh,hs,hn,hm,hp,he,hf⟩
 ·left
  cases hv with
  | imm hv => cases hv
  | sliceV id a h => exact ⟨a,rfl,rfl⟩
  | slice id off len cap b sz' n c a h => rw [hk] at h; cases h
 ·cases hv with
  | imm hv => cases hv
  | sliceV id a h => rw [hk] at h; cases h
  | slice id off len cap b' sz' n' c' a h h1 h2 h3 h4 =>
   have q:=hk.symm.trans h;simp only [Option.some.injEq,Loc.row.injEq] at q;obtain ⟨rfl,rfl,rfl,rfl⟩:=q;subst hl;by_cases hc : cap = 0
   ·left
    have : es = []:=List.eq_nil_of_length_eq_zero (by omega)
    subst this hc;exact ⟨some a,rfl,rfl⟩
   ·right
    have ha:=h4 hc;rw [Nat.zero_mul] at ha;subst ha;rw [Nat.zero_add] at h3;subst h3;exact ⟨b,cap,cs,t,rfl,by simp [blocksOf,hk,locB,Loc.blocks],hh,hs,by omega,by omega,hm,hp,he,hf⟩
theorem row_prefix {id len sz : Nat} {es : List AV} {v : Value} (hR : RowsOk P Γ Own σ S w R) (hr : R id = some (.arr sz es)) (hl : len≤es.length) (hv : RelV σ S w v (.slice id 0 len)) :
  OwnS S w v sz (es.take len) (blocksOf σ [id]):=by
 have hlen : (es.take len).length = len:=by simp; omega
 rcases hR.ok id _ hr with ⟨hk,rfl⟩ | ⟨b,c,cs,t,hk,hh,hs,hn,hm,hp,he,hf⟩
 ·left
  cases hv with
  | imm hv => cases hv
  | sliceV id a h => exact ⟨a,rfl,by simp⟩
  | slice id off len cap b sz' n c a h => rw [hk] at h; cases h
 ·cases hv with
  | imm hv => cases hv
  | sliceV id a h => rw [hk] at h; cases h
  | slice id off len cap b' sz' n' c' a h h1 h2 h3 h4 =>
   have q:=hk.symm.trans h;simp only [Option.some.injEq,Loc.row.injEq] at q;obtain ⟨rfl,rfl,rfl,rfl⟩:=q;by_cases hc : cap = 0
   ·left
    have : len = 0:=by omega
    subst this hc;exact ⟨some a,rfl,by simp⟩
   ·right
    have ha:=h4 hc;rw [Nat.zero_mul] at ha;subst ha;rw [Nat.zero_add] at h3;subst h3;refine ⟨b,cap,cs,t,by rw [hlen],by simp [blocksOf,hk,locB,Loc.blocks],hh,hs,by omega,by omega,hm,hp,fun e hm => he e (List.mem_of_mem_take hm),fun i x hx => ?_⟩
    rw [flat_take he,List.getElem?_take] at hx;split at hx
    ·exact hf i x hx
    ·cases hx
theorem OwnS.lock {v : Value} {sz : Nat} {es : List AV} {bs ids : List Nat} (h : OwnS S w v sz es bs) : OwnS (Locked σ S R ids) w v sz es bs:=by
 rcases h with h | ⟨b,cap,cs,t,h1,h2,h3,h4,h5,h6,h7,h8,h10,h11⟩
 ·exact .inl h
 ·exact .inr ⟨b,cap,cs,t,h1,h2,h3,h4,h5,h6,h7,h8,h10,fun i x hx => by obtain ⟨u,q1,q2⟩:=h11 i x hx; exact ⟨u,q1,q2.mono (fun _ h => .inl h) fun _ _ => rfl⟩⟩
theorem OwnS.mono {S' : Nat → Prop} {v : Value} {sz : Nat} {es : List AV} {bs : List Nat} (hS : ∀ b,S b → S' b) (h : OwnS S w v sz es bs) : OwnS S' w v sz es bs:=by
 rcases h with h | ⟨b,cap,cs,t,h1,h2,h3,h4,h5,h6,h7,h8,h10,h11⟩
 ·exact .inl h
 ·exact .inr ⟨b,cap,cs,t,h1,h2,h3,h4,h5,h6,h7,h8,h10,fun i x hx => by obtain ⟨u,q1,q2⟩:=h11 i x hx; exact ⟨u,q1,q2.mono hS fun _ _ => rfl⟩⟩
theorem OwnC.mono {S' : Nat → Prop} {v : Value} {a : AV} {bs : List Nat} (hS : ∀ b,S b → S' b) (h : OwnC S w v a bs) : OwnC S' w v a bs:=by
 unfold OwnC at *;split at h
 ·exact OwnS.mono hS h
 ·exact h
 ·exact h
 ·exact ⟨h.1,h.2.mono hS fun _ _ => rfl⟩
theorem OwnI.mono {S' : Nat → Prop} {v : Value} {a : AV} {bs : List Nat} (hS : ∀ b,S b → S' b) (h : OwnI S w v a bs) : OwnI S' w v a bs:=by
 unfold OwnI at *;split at h
 ·obtain ⟨vs,h1,h2⟩:=h; exact ⟨vs,h1,h2.mono fun _ _ _ => OwnC.mono hS⟩
 ·exact h.mono hS
theorem OwnR.mono {S' : Nat → Prop} {v : Value} {a : AV} {bs : List Nat} (hS : ∀ b,S b → S' b) (h : OwnR S w v a bs) : OwnR S' w v a bs:=by
 unfold OwnR at *;split at h
 ·obtain ⟨vs,h1,h2⟩:=h; exact ⟨vs,h1,h2.mono fun _ _ _ => OwnI.mono hS⟩
 ·exact h.mono hS
theorem ArgR.mono {S' : Nat → Prop} {v : Value} {a : AV} {bs : List Nat} (hS : ∀ b,S b → S' b) (h : ArgR P Γ S w v a bs) : ArgR P Γ S' w v a bs:=by
 unfold ArgR at *;split at h
 ·obtain ⟨b,cells,t,bs',h1,h2,h3,h4,h5,h6⟩:=h; exact ⟨b,cells,t,bs',h1,h2,h3,h4,h5.mono fun _ _ _ => OwnC.mono hS,h6⟩
 ·exact OwnS.mono hS h
 ·exact OwnS.mono hS h
 ·exact h
 ·obtain ⟨l,h1,h2,h3,h4,h5,h6⟩:=h; exact ⟨l,h1,h2,h3,h4,h5,h5.up h6 hS⟩
 ·exact ⟨h.1,h.2.mono hS fun _ _ => rfl⟩
theorem frz_notOwn {d : Nat} {a a' : AV} {ids : List Nat} (h : frz R d a = some (a',ids)) : (∀ sz es,a' ≠ .own sz es)∧(∀ cs,a' ≠ .bor cs)∧(∀ sz es,a' ≠ .borS sz es)∧(∀ cs,a' ≠ .tuple cs)∧((∀ cs,a ≠ .agg cs) → ∀ cs,a' ≠ .agg cs):=by
 cases d with
 | zero => simp [frz] at h
 | succ d =>
  cases a <;> simp only [frz] at h
  all_goals first
   | (cases h; done)
   | (simp only [Option.some.injEq,Prod.mk.injEq] at h; obtain ⟨rfl,_⟩:=h; simp; done)
   | skip
  all_goals
   (repeat' split at h) <;> first
    | (cases h; done)
    | (simp only [Option.some.injEq,Prod.mk.injEq] at h; obtain ⟨rfl,_⟩:=h; simp)
theorem frz_notLog {d : Nat} {a a' : AV} {ids : List Nat} (h : frz R d a = some (a',ids)) : ∀ k xs,a' ≠ .ylog k xs:=by
 cases d with
 | zero => simp [frz] at h
 | succ d =>
  cases a <;> simp only [frz] at h
  all_goals first
   | (cases h; done)
   | (simp only [Option.some.injEq,Prod.mk.injEq] at h; obtain ⟨rfl,_⟩:=h; simp; done)
   | skip
  all_goals
   (repeat' split at h) <;> first
    | (cases h; done)
    | (simp only [Option.some.injEq,Prod.mk.injEq] at h; obtain ⟨rfl,_⟩:=h; simp)
theorem frz_notB {d : Nat} {a a' : AV} {ids : List Nat} (h : frz R d a = some (a',ids)) : ∀ ks keys vals,a' ≠ .borM ks keys vals:=by
 cases d with
 | zero => simp [frz] at h
 | succ d =>
  cases a <;> simp only [frz] at h
  all_goals first
   | (cases h; done)
   | (simp only [Option.some.injEq,Prod.mk.injEq] at h; obtain ⟨rfl,_⟩:=h; simp; done)
   | skip
  all_goals
   (repeat' split at h) <;> first
    | (cases h; done)
    | (simp only [Option.some.injEq,Prod.mk.injEq] at h; obtain ⟨rfl,_⟩:=h; simp)
theorem frz_notM {d : Nat} {a a' : AV} {ids : List Nat} (h : frz R d a = some (a',ids)) : ∀ ks keys vals,a' ≠ .ownM ks keys vals:=by
 cases d with
 | zero => simp [frz] at h
 | succ d =>
  cases a <;> simp only [frz] at h
  all_goals first
   | (cases h; done)
   | (simp only [Option.some.injEq,Prod.mk.injEq] at h; obtain ⟨rfl,_⟩:=h; simp; done)
   | skip
  all_goals
   (repeat' split at h) <;> first
    | (cases h; done)
    | (simp only [Option.some.injEq,Prod.mk.injEq] at h; obtain ⟨rfl,_⟩:=h; simp)
theorem frz_notT {d : Nat} {a a' : AV} {ids : List Nat} (h : frz R d a = some (a',ids)) : ∀ sz es,a' ≠ .ownT sz es:=by
 cases d with
 | zero => simp [frz] at h
 | succ d =>
  cases a <;> simp only [frz] at h
  all_goals first
   | (cases h; done)
   | (simp only [Option.some.injEq,Prod.mk.injEq] at h; obtain ⟨rfl,_⟩:=h; simp; done)
   | skip
  all_goals
   (repeat' split at h) <;> first
    | (cases h; done)
    | (simp only [Option.some.injEq,Prod.mk.injEq] at h; obtain ⟨rfl,_⟩:=h; simp)
theorem exCell_sound (hR : RowsOk P Γ Own σ S w R) {a : AV} {x : Ex} {v : Value} (h : exCell R a = some x) (hv : RelV σ S w v a) : OwnC (Locked σ S R x.fz) w v x.v (blocksOf σ x.mv):=by
 unfold exCell at h;split at h
 ·simp at h; subst h
  cases hv with | imm hv => cases hv; exact .inl ⟨_,rfl,rfl⟩
 ·rename_i id off len
  split at h
  ·rename_i sz es hr
   split at h
   ·rename_i hc
    simp at h; subst h
    exact (row_own hR hr hc.1 hc.2 hv).lock
   ·split at h
    ·rename_i hc
     simp at h; subst h
     obtain ⟨rfl,hc2⟩:=hc;exact (row_prefix hR hr hc2 hv).lock
    split at h
    ·rename_i hle
     simp at h; subst h
     refine ⟨rfl,?_⟩;cases hv with
     | imm h => cases h
     | sliceV id a h => simp only [List.take_zero]; exact .list0 _ _ _
     | slice id off len cap b sz' n c a h h1 h2 h3 h4 => exact RelI.of_row hR hr hle (.slice id off len cap b sz' n c a h h1 h2 h3 h4)
    ·cases h
  ·cases h
 ·cases h
 ·cases h
 ·simp at h; subst h
  cases hv with | imm hv => exact ⟨rfl,hv.mono (fun _ h => .inl h) fun _ _ => rfl⟩
 ·rename_i id
  split at h
  ·rename_i row hr
   split at h
   ·rename_i ks keys vals ha
    simp at h; subst h
    obtain ⟨r,es,clock,hk,hh,he⟩:=asM_ok (hR.ok id _ hr) ha;cases hv with
    | imm hv => cases hv
    | mapp id r' hσ =>
     have q:=hk.symm.trans hσ;simp only [Option.some.injEq,Loc.map.injEq] at q;subst q;exact ⟨r,es,clock,rfl,by simp [blocksOf,hk,locB,Loc.blocks],hh,he⟩
   ·cases h
  ·cases h
 ·rename_i id len
  split at h
  ·rename_i sz es hr
   split at h
   ·rename_i hl
    simp at h; subst h
    show OwnTab w v sz es (blocksOf σ [id])
    cases hv with
    | imm hv => cases hv
    | tabV _ ad hσ => exact .inl ⟨ad,rfl,List.eq_nil_of_length_eq_zero hl.symm⟩
    | tabS _ b sz' n c inn hσ =>
     rcases hR.ok id _ hr with ⟨hk,_⟩ | ⟨l,hk,ht⟩
     ·rw [hk] at hσ; cases hσ
     ·have ht0:=ht
      obtain ⟨b0,c0,inn0,cells,t',rfl,g2⟩:=ht;rw [hk] at hσ;simp only [Option.some.injEq,Loc.tab.injEq] at hσ;obtain ⟨rfl,rfl,rfl,rfl,rfl⟩:=hσ;exact .inr ⟨b0,c0,inn0,ht0,rfl,by simp [blocksOf,hk,locB]⟩
   ·cases h
  ·cases h
 ·split at h
  ·rename_i v' ids hf
   simp at h; subst h
   have:=frz_sound hR _ hf hv;have hno:=(frz_notOwn hf).1;unfold OwnC;split
   ·rename_i sz es heq; exact absurd heq (hno sz es)
   ·rename_i ks keys vals heq; exact absurd heq (frz_notM hf ks keys vals)
   ·rename_i sz es heq; exact absurd heq (frz_notT hf sz es)
   ·exact ⟨rfl,this⟩
  ·cases h
theorem Locked.weaken {ids ids' : List Nat} (h : ∀ i ∈ ids,i ∈ ids') : ∀ b,Locked σ S R ids b → Locked σ S R ids' b:=fun _ hb => hb.mono h
theorem exL_sound {f : AV → Option Ex} {Rel : (Nat → Prop) → Value → AV → List Nat → Prop} (hmono : ∀ S S' v a bs,(∀ b,S b → S' b) → Rel S v a bs → Rel S' v a bs)
  (hf : ∀ a x v,f a = some x → RelV σ S w v a → Rel (Locked σ S R x.fz) v x.v (blocksOf σ x.mv)) : ∀ {as : List AV} {vs : List Value} {r : List AV × List Nat × List Nat},exL f as = some r →
  vs.length = as.length → (∀ (i : Nat) v c,vs[i]? = some v → as[i]? = some c → RelV σ S w v c) → LiftL (Rel (Locked σ S R r.2.2)) vs r.1 (blocksOf σ r.2.1)
 | [],[],r,h,_,_ => by simp [exL] at h; subst h; simp [LiftL,blocksOf]
 | [],_ :: _,r,_,hl,_ => by simp at hl
 | _ :: _,[],r,_,hl,_ => by simp at hl
 | a :: as,v :: vs,r,h,hl,hr => by
  simp only [exL] at h;split at h
  ·cases h
  ·rename_i x hx
   split at h
   ·cases h
   ·rename_i ys m z hy
    simp at h; subst h
    have h1:=hf a x v hx (hr 0 v a rfl rfl);have h2:=exL_sound hmono hf hy (by simpa using hl) (fun i v c hv hc => hr (i + 1) v c (by simpa using hv) (by simpa using hc))
    refine ⟨_,_,hmono _ _ _ _ _ (Locked.weaken fun i hi => List.mem_append_left _ hi) h1,h2.mono fun _ _ _ => hmono _ _ _ _ _ (Locked.weaken fun i hi => List.mem_append_right _ hi),?_⟩
    simp [blocksOf_append]
theorem RelV.agg_inv {v : Value} {cs : List AV} (hv : RelV σ S w v (.agg cs)) : ∃ vs,v = .agg vs∧vs.size = cs.length∧∀ (i : Nat) v c,vs[i]? = some v → cs[i]? = some c → RelV σ S w v c:=by
 cases hv with
 | imm hv => cases hv with | agg vs _ hl hr => exact ⟨vs,rfl,hl,fun i v c h1 h2 => .imm (hr i v c h1 h2)⟩
 | agg vs _ hl hr => exact ⟨vs,rfl,hl,hr⟩
theorem exItem_sound (hR : RowsOk P Γ Own σ S w R) {a : AV} {x : Ex} {v : Value} (h : exItem R a = some x) (hv : RelV σ S w v a) : OwnI (Locked σ S R x.fz) w v x.v (blocksOf σ x.mv):=by
 unfold exItem at h;split at h
 ·rename_i cs
  split at h
  ·rename_i cs' m z hx
   simp at h; subst h
   obtain ⟨vs,rfl,hl,hr⟩:=hv.agg_inv;exact ⟨vs,rfl,exL_sound (Rel:=fun S=>OwnC S w) (fun _ _ _ _ _ => OwnC.mono) (fun a x v h hv => exCell_sound hR h hv) hx (by simpa using hl) (fun i v c h1 h2 => hr i v c (by simpa using h1) h2)⟩
  ·cases h
 ·rename_i hna
  have hc:=exCell_sound hR h hv;unfold OwnI;split
  ·rename_i cs heq
   exfalso;unfold exCell at h;split at h
   ·simp at h; subst h; cases heq
   ·split at h
    ·split at h
     ·simp at h; subst h; cases heq
     ·split at h
      ·simp at h; subst h; cases heq
      split at h
      ·simp at h; subst h; cases heq
      ·cases h
    ·cases h
   ·cases h
   ·cases h
   ·simp at h; subst h; cases heq
   ·split at h
    ·split at h
     ·simp at h; subst h; cases heq
     ·cases h
    ·cases h
   ·split at h
    ·split at h
     ·simp at h; subst h; cases heq
     ·cases h
    ·cases h
   ·split at h
    ·rename_i v' ids hf
     simp at h; subst h
     exact (frz_notOwn hf).2.2.2.2 (fun cs h => hna cs h) cs heq
    ·cases h
  ·exact hc
theorem exItem_notTuple {a : AV} {x : Ex} (h : exItem R a = some x) : ∀ cs,x.v ≠ .tuple cs:=by
 intro cs heq;unfold exItem at h;split at h
 ·split at h
  ·simp at h; subst h; cases heq
  ·cases h
 ·unfold exCell at h
  split at h
  ·simp at h; subst h; cases heq
  ·split at h
   ·split at h
    ·simp at h; subst h; cases heq
    ·split at h
     ·simp at h; subst h; cases heq
     split at h
     ·simp at h; subst h; cases heq
     ·cases h
   ·cases h
  ·cases h
  ·cases h
  ·simp at h; subst h; cases heq
  ·split at h
   ·split at h
    ·simp at h; subst h; cases heq
    ·cases h
   ·cases h
  ·split at h
   ·split at h
    ·simp at h; subst h; cases heq
    ·cases h
   ·cases h
  ·split at h
   ·rename_i v' ids hf
    simp at h; subst h
    exact (frz_notOwn hf).2.2.2.1 cs heq
   ·cases h
theorem exRes_sound (hR : RowsOk P Γ Own σ S w R) {a : AV} {x : Ex} {v : Value} (h : exRes R a = some x) (hv : RelV σ S w v a) : OwnR (Locked σ S R x.fz) w v x.v (blocksOf σ x.mv):=by
 unfold exRes at h;split at h
 ·rename_i cs
  split at h
  ·rename_i cs' m z hx
   simp at h; subst h
   cases hv with
   | imm hv => cases hv
   | tuple vs _ hl hr =>
    exact ⟨vs,rfl,exL_sound (Rel:=fun S=>OwnI S w) (fun _ _ _ _ _ => OwnI.mono) (fun a x v h hv => exItem_sound hR h hv) hx (by simpa using hl) (fun i v c h1 h2 => hr i v c (by simpa using h1) h2)⟩
  ·cases h
 ·have:=exItem_sound hR h hv
  unfold OwnR;split
  ·rename_i cs heq; exact absurd heq (exItem_notTuple h cs)
  ·exact this
theorem exL_scalars : ∀ {as : List AV} {r : List AV × List Nat × List Nat},exL (exCell R) as = some r → (∀ x ∈ as,x.scalar = true) → ∀ x ∈ r.1,x.boxed
 | [],r,h,_ => by simp [exL] at h; subst h; simp
 | a :: as,r,h,hs => by
  simp only [exL] at h;split at h
  ·cases h
  ·rename_i x hx
   split at h
   ·cases h
   ·rename_i ys m z hy
    simp at h; subst h
    have ih:=exL_scalars hy fun x hx => hs x (List.mem_cons_of_mem _ hx)
    intro q hq;rcases List.mem_cons.1 hq with rfl | hq
    ·have hsa:=hs a (List.mem_cons_self ..)
     unfold exCell at hx;split at hx
     ·simp at hx; subst hx; exact .inr (.inl ⟨_,_,rfl⟩)
     ·split at hx
      ·split at hx
       ·simp at hx; subst hx; exact .inr (.inl ⟨_,_,rfl⟩)
       ·split at hx
        ·simp at hx; subst hx; exact .inr (.inl ⟨_,_,rfl⟩)
        split at hx
        ·simp at hx; subst hx; exact .inl rfl
        ·cases hx
      ·cases hx
     ·cases hx
     ·cases hx
     ·simp [AV.scalar] at hsa
     ·split at hx
      ·split at hx
       ·simp at hx; subst hx; exact .inr (.inr (.inl ⟨_,_,_,rfl⟩))
       ·cases hx
      ·cases hx
     ·split at hx
      ·split at hx
       ·simp at hx; subst hx; exact .inr (.inr (.inr ⟨_,_,rfl⟩))
       ·cases hx
      ·cases hx
     ·split at hx
      ·rename_i v' ids hf
       simp at hx; subst hx
       exact .inl (frz_scalar hf hsa)
      ·cases hx
    ·exact ih q hq
theorem exBox_sound (hR : RowsOk P Γ Own σ S w R) {id : Nat} {cs : List AV} {r : List AV × List Nat × List Nat} {v : Value} (hr : R id = some (.box cs)) (h : exL (exCell R) cs = some r) (hv : RelV σ S w v (.ptr id 0 0)) :
  ArgR P Γ (Locked σ S R r.2.2) w v (.bor r.1) (blocksOf σ (id :: r.2.1)):=by
 obtain ⟨b,cells,t,hk,hh,hs,hsc,hrel⟩:=hR.ok id _ hr;cases hv with
 | imm hv => cases hv
 | ptr id idx off b' sz n c hσ h1 =>
  have q:=hk.symm.trans hσ;simp only [Option.some.injEq,Loc.row.injEq] at q;obtain ⟨rfl,rfl,rfl,rfl⟩:=q;have hl:=exL_sound (σ:=σ) (S:=S) (w:=w) (R:=R) (Rel:=fun S=>OwnC S w) (fun _ _ _ _ _ => OwnC.mono) (fun a x v h hv => exCell_sound hR h hv) (vs:=cells.toList) h (by simpa using hs) (fun i v c h1 h2 => by
   obtain ⟨v',q1,q2⟩:=hrel i c h2;rw [Array.getElem?_toList] at h1;rw [h1] at q1; cases q1; exact q2)
  refine ⟨b,cells,t,blocksOf σ r.2.1,by simp,by simp [blocksOf,hk,locB,Loc.blocks],hh,by have:=hl.length; simpa using this,hl,exL_scalars h hsc⟩
end
end Go.Abs
namespace Go.Abs
def Ids.union (a b : Ids) : Ids:=fun id=>match a id with
 | some l => some l
 | none => b id
structure Imp (P : Program) (Γ : Gam) (S : Nat → Prop) (w : World) (n n' : Nat) (rows : List (Nat × Row)) (bs : List Nat) (τ : Ids) : Prop where
 le : n≤n'
 dom : ∀ id l,τ id = some l → n≤id∧id < n'
 ok : ∀ id r,lk id rows = some r → RowOk P Γ τ S w id r
 blk : ∀ id b,Loc.has (τ id) b → b ∈ bs
 inj : bs.Nodup → ∀ id id' b,Loc.has (τ id) b → Loc.has (τ id') b → id = id'
theorem lk_append {α : Type} (k : Nat) (a b : List (Nat × α)) : lk k (a ++ b) = (lk k a).or (lk k b):=by
 induction a with
 | nil => simp [lk]
 | cons p a ih =>
  obtain ⟨j,v⟩:=p;simp only [List.cons_append,lk];split
  ·rfl
  ·exact ih
section
variable {P : Program} {Γ : Gam} {S : Nat → Prop} {w : World}
theorem Imp.empty (n : Nat) : Imp P Γ S w n n [] [] (fun _=>none) :=
 ⟨Nat.le_refl _,by simp,by simp [lk],fun id b h => (by obtain ⟨l,hl,_⟩:=h; cases hl),fun _ id id' b h => (by obtain ⟨l,hl,_⟩:=h; cases hl)⟩
theorem Ids.le_union_left (a b : Ids) : a.le (a.union b):=fun id l h => by simp [Ids.union,h]
theorem Ids.le_union_right {a b : Ids} (h : ∀ id l l',a id = some l → b id = some l' → False) : b.le (a.union b):=fun id l hl => by
 unfold Ids.union;cases ha : a id with
 | none => exact hl
 | some l' => exact (h id l' l ha hl).elim
theorem RowOk.ids {τ τ' : Ids} (h : τ.le τ') {id : Nat} {r : Row} (hr : RowOk P Γ τ S w id r) : RowOk P Γ τ' S w id r :=
 hr.mono h (fun _ h => h) (fun _ _ => rfl) (Nat.le_refl _) fun _ _ => rfl
theorem Ids.has_union {a b : Ids} {id x : Nat} (h : Loc.has ((a.union b) id) x) : Loc.has (a id) x ∨ (a id = none∧Loc.has (b id) x):=by
 obtain ⟨l,hl,hb⟩:=h;unfold Ids.union at hl;cases ha : a id with
 | none => rw [ha] at hl; exact .inr ⟨rfl,l,hl,hb⟩
 | some l' => rw [ha] at hl; simp only [Option.some.injEq] at hl; subst hl; exact .inl ⟨l',rfl,hb⟩
theorem Imp.append {n n' n'' : Nat} {rows1 rows2 : List (Nat × Row)} {bs1 bs2 : List Nat} {τ1 τ2 : Ids} (h1 : Imp P Γ S w n n' rows1 bs1 τ1) (h2 : Imp P Γ S w n' n'' rows2 bs2 τ2) :
  Imp P Γ S w n n'' (rows1 ++ rows2) (bs1 ++ bs2) (τ1.union τ2)∧τ2.le (τ1.union τ2):=by
 have hdis : ∀ id l l',τ1 id = some l → τ2 id = some l' → False:=fun id l l' a b => by
  have:=h1.dom id l a;have:=h2.dom id l' b;omega
 have hle2 : τ2.le (τ1.union τ2):=Ids.le_union_right hdis;refine ⟨⟨Nat.le_trans h1.le h2.le,fun id l hl => ?_,fun id r hr => ?_,fun id b hb => ?_,fun hn id id' b hb hb' => ?_⟩,hle2⟩
 ·unfold Ids.union at hl
  cases ha : τ1 id with
  | none => rw [ha] at hl; have:=h2.dom id l hl; have:=h1.le; omega
  | some l' => have:=h1.dom id l' ha; have:=h2.le; omega
 ·rw [lk_append] at hr
  cases ha : lk id rows1 with
  | none => rw [ha] at hr; exact (h2.ok id r (by simpa using hr)).ids hle2
  | some r' => rw [ha] at hr; simp at hr; subst hr; exact (h1.ok id r' ha).ids (Ids.le_union_left _ _)
 ·rcases Ids.has_union hb with hb | ⟨_,hb⟩
  ·exact List.mem_append_left _ (h1.blk id b hb)
  ·exact List.mem_append_right _ (h2.blk id b hb)
 ·obtain ⟨n1,n2,n3⟩:=List.nodup_append.1 hn
  rcases Ids.has_union hb with hb | ⟨_,hb⟩ <;> rcases Ids.has_union hb' with hb' | ⟨_,hb'⟩
  ·exact h1.inj n1 id id' b hb hb'
  ·exact absurd rfl (n3 b (h1.blk id b hb) b (h2.blk id' b hb'))
  ·exact absurd rfl (n3 b (h1.blk id' b hb') b (h2.blk id b hb))
  ·exact h2.inj n2 id id' b hb hb'
theorem Imp.one {n : Nat} {r : Row} {l : Loc} {bs : List Nat} (hr : RowOk P Γ (Ids.set (fun _=>none) n l) S w n r) (hbs : ∀ b,b ∈ l.blocks → b ∈ bs) : Imp P Γ S w n (n + 1) [(n,r)] bs (Ids.set (fun _=>none) n l):=by
 refine ⟨by omega,fun id l' h => ?_,fun id r' h => ?_,fun id b h => ?_,fun _ id id' b h h' => ?_⟩
 ·unfold Ids.set at h
  split at h
  ·omega
  ·cases h
 ·simp only [lk] at h
  split at h
  ·rename_i e; subst e; simp at h; subst h; exact hr
  ·cases h
 ·obtain ⟨l',h1,h2⟩:=h
  unfold Ids.set at h1;split at h1
  ·cases h1; exact hbs b h2
  ·cases h1
 ·obtain ⟨l1,h1,_⟩:=h
  obtain ⟨l2,h2,_⟩:=h';unfold Ids.set at h1 h2;split at h1
  ·split at h2
   ·omega
   ·cases h2
  ·cases h1
theorem OwnS.imp {v : Value} {sz : Nat} {es : List AV} {bs : List Nat} (h : OwnS S w v sz es bs) (n : Nat) :
  ∃ τ,Imp P Γ S w n (n + 1) [(n,.arr sz es)] bs τ∧RelV τ S w v (.slice n 0 es.length):=by
 rcases h with ⟨a,rfl,rfl⟩ | ⟨b,cap,cs,t,rfl,rfl,h3,h4,h5,h6,h7,h8,h10,h11⟩
 ·exact ⟨_,Imp.one (l:=.virt) (.inl ⟨Ids.set_self ..,rfl⟩) (fun b hb => by cases hb),.sliceV n a (Ids.set_self ..)⟩
 ·exact ⟨_,Imp.one (l:=.row b sz es.length cap) (.inr ⟨b,cap,cs,t,Ids.set_self ..,h3,h4,by omega,h7,h8,h10,h11⟩) (fun b' hb => by simpa [Loc.blocks] using hb),
   .slice n 0 _ cap b sz es.length cap _ (Ids.set_self ..) (by omega) (by omega) (by omega) (by simp)⟩
theorem OwnM.imp {v : Value} {ks : List Bool} {keys : List (List AV)} {vals : List AV} {bs : List Nat} (h : OwnM w v ks keys vals bs) (n : Nat) :
  ∃ τ,Imp P Γ S w n (n + 1) [(n,mapRow ks keys vals)] bs τ∧RelV τ S w v (.mapp n):=by
 obtain ⟨r,es,clock,rfl,rfl,hh,he⟩:=h;exact ⟨_,Imp.one (l:=.map r) (mapRow_ok (Ids.set_self ..) hh he) (fun b' hb => by simpa [Loc.blocks] using hb),.mapp n r (Ids.set_self ..)⟩
theorem imCell_sound {v : Value} {a : AV} {bs : List Nat} (h : OwnC S w v a bs) (n : Nat) :
  ∃ τ,Imp P Γ S w n (imCell n a).2.2 (imCell n a).2.1 bs τ∧RelV τ S w v (imCell n a).1:=by
 unfold OwnC at h;unfold imCell;split at h
 ·exact OwnS.imp h n
 ·rename_i ks keys vals
  exact OwnM.imp h n
 ·rename_i sz es
  rcases h with ⟨ad,rfl,rfl⟩ | ⟨b,c,inn,ht,rfl,rfl⟩
  ·exact ⟨_,Imp.one (l:=.virt) (.inl ⟨Ids.set_self ..,rfl⟩) (fun b hb => by cases hb),.tabV n ad (Ids.set_self ..)⟩
  ·exact ⟨_,Imp.one (l:=.tab b sz es.length c inn) (.inr ⟨_,Ids.set_self ..,ht⟩) (fun b' hb => hb),.tabS n b sz es.length c inn (Ids.set_self ..)⟩
 ·rename_i hne hnm hnt
  obtain ⟨rfl,h⟩:=h;split
  ·rename_i sz es; exact absurd rfl (hne sz es)
  ·rename_i ks keys vals; exact absurd rfl (hnm ks keys vals)
  ·rename_i sz es; exact absurd rfl (hnt sz es)
  ·exact ⟨_,Imp.empty n,.imm h⟩
theorem imL_sound {f : Nat → AV → AV × List (Nat × Row) × Nat} {Rel : Value → AV → List Nat → Prop}
  (hf : ∀ v a bs n,Rel v a bs → ∃ τ,Imp P Γ S w n (f n a).2.2 (f n a).2.1 bs τ∧RelV τ S w v (f n a).1) :
  ∀ {vs : List Value} {as : List AV} {bs : List Nat} (n : Nat),LiftL Rel vs as bs →
   ∃ τ,Imp P Γ S w n (imL f n as).2.2 (imL f n as).2.1 bs τ∧vs.length = (imL f n as).1.length∧∀ (i : Nat) v c,vs[i]? = some v → (imL f n as).1[i]? = some c → RelV τ S w v c
 | [],[],bs,n,h => by
  have : bs = []:=h;subst this;exact ⟨_,Imp.empty n,rfl,by simp [imL]⟩
 | v :: vs,a :: as,bs,n,h => by
  obtain ⟨b1,b2,h1,h2,rfl⟩:=h;obtain ⟨τ1,i1,r1⟩:=hf v a b1 n h1;obtain ⟨τ2,i2,l2,r2⟩:=imL_sound hf (f n a).2.2 h2;obtain ⟨i3,hle⟩:=i1.append i2;refine ⟨τ1.union τ2,i3,by simp [imL,l2],fun i u c hu hc => ?_⟩
  cases i with
  | zero =>
   simp [imL] at hu hc;subst hu hc;exact r1.mono (Ids.le_union_left _ _) (fun _ h => h) fun _ _ => rfl
  | succ i =>
   simp [imL] at hu hc;exact (r2 i u c hu hc).mono hle (fun _ h => h) fun _ _ => rfl
 | [],_ :: _,_,_,h => h.elim
 | _ :: _,[],_,_,h => h.elim
theorem imItem_sound {v : Value} {a : AV} {bs : List Nat} (h : OwnI S w v a bs) (n : Nat) :
  ∃ τ,Imp P Γ S w n (imItem n a).2.2 (imItem n a).2.1 bs τ∧RelV τ S w v (imItem n a).1:=by
 unfold OwnI at h;unfold imItem;split at h
 ·obtain ⟨vs,rfl,h⟩:=h
  obtain ⟨τ,h1,h2,h3⟩:=imL_sound (f:=imCell) (fun v a bs n h => imCell_sound h n) n h
  exact ⟨τ,h1,.agg _ _ (by simpa using h2) fun i v c hv hc => h3 i v c (by simpa using hv) hc⟩
 ·rename_i hne
  split
  ·rename_i cs; exact absurd rfl (hne cs)
  ·exact imCell_sound h n
theorem imRes_sound {v : Value} {a : AV} {bs : List Nat} (h : OwnR S w v a bs) (n : Nat) :
  ∃ τ,Imp P Γ S w n (imRes n a).2.2 (imRes n a).2.1 bs τ∧RelV τ S w v (imRes n a).1:=by
 unfold OwnR at h;unfold imRes;split at h
 ·obtain ⟨vs,rfl,h⟩:=h
  obtain ⟨τ,h1,h2,h3⟩:=imL_sound (f:=imItem) (fun v a bs n h => imItem_sound h n) n h
  exact ⟨τ,h1,.tuple _ _ (by simpa using h2) fun i v c hv hc => h3 i v c (by simpa using hv) hc⟩
 ·rename_i hne
  split
  ·rename_i cs; exact absurd rfl (hne cs)
  ·exact imItem_sound h n
theorem imL_scalars : ∀ (as : List AV) (n : Nat),(∀ x ∈ as,x.boxed) → ∀ x ∈ (imL imCell n as).1,x.scalar = true
 | [],n,_ => by simp [imL]
 | a :: as,n,h => by
  intro x hx;simp only [imL,List.mem_cons] at hx;rcases hx with rfl | hx
  ·rcases h a (List.mem_cons_self ..) with hs | ⟨sz,es,rfl⟩ | ⟨ks,keys,vals,rfl⟩ | ⟨sz,es,rfl⟩
   ·unfold imCell
    split
    ·rfl
    ·rfl
    ·rfl
    ·exact hs
   ·rfl
   ·rfl
   ·rfl
  ·exact imL_scalars as _ (fun x hx => h x (List.mem_cons_of_mem _ hx)) x hx
theorem box_imp {cells : Array Value} {cs : List AV} {bs : List Nat} (hl : LiftL (OwnC S w) cells.toList cs bs)
  (hsc : ∀ x ∈ cs,x.boxed) (n : Nat) :
  ∃ τ,Imp P Γ S w n (imL imCell n cs).2.2 (imL imCell n cs).2.1 bs τ∧cells.size = (imL imCell n cs).1.length∧(∀ x ∈ (imL imCell n cs).1,x.scalar = true) ∧
   ∀ (i : Nat) x,(imL imCell n cs).1[i]? = some x → ∃ v,cells[i]? = some v∧RelV τ S w v x:=by
 obtain ⟨τ,h1,h2,h3⟩:=imL_sound (f:=imCell) (fun v a bs n h => imCell_sound h n) n hl
 have h2' : cells.size = (imL imCell n cs).1.length:=by simpa using h2
 refine ⟨τ,h1,h2',imL_scalars cs n hsc,fun i x hx => ?_⟩
 have hlt : i < cells.size:=by have:=(List.getElem?_eq_some_iff.1 hx).1; omega
 exact ⟨cells[i],Array.getElem?_eq_getElem hlt,h3 i _ x (by rw [Array.getElem?_toList]; exact Array.getElem?_eq_getElem hlt) hx⟩
theorem imArg_sound {v : Value} {a : AV} {bs : List Nat} (h : ArgR P Γ S w v a bs) (n : Nat) :
  ∃ τ,Imp P Γ S w n (imArg n a).2.2 (imArg n a).2.1 bs τ∧RelV τ S w v (imArg n a).1:=by
 unfold ArgR at h;unfold imArg;split at h
 ·rename_i cs
  obtain ⟨b,cells,t,bs',rfl,rfl,hh,hs,hl,hsc⟩:=h;obtain ⟨τ,h1,h2,h3,h4⟩:=box_imp hl hsc (n + 1);have hone : Imp P Γ S w n (n + 1) [] [b] (Ids.set (fun _=>none) n (.row b (imL imCell (n + 1) cs).1.length 1 1)):=by
   have e : ∀ id l,(Ids.set (fun _=>none) n (Loc.row b (imL imCell (n + 1) cs).1.length 1 1)) id = some l → id = n∧l = .row b (imL imCell (n + 1) cs).1.length 1 1:=by
    intro id l h;unfold Ids.set at h;split at h
    ·cases h; exact ⟨by assumption,rfl⟩
    ·cases h
   refine ⟨by omega,fun id l h => ?_,by simp [lk],fun id b' h => ?_,fun _ id id' b' h h' => ?_⟩
   ·have:=(e id l h).1; omega
   ·obtain ⟨l,h,hb⟩:=h
    obtain ⟨_,rfl⟩:=e id l h;simpa [Loc.blocks] using hb
   ·obtain ⟨l,h,_⟩:=h
    obtain ⟨l',h',_⟩:=h';rw [(e id l h).1,(e id' l' h').1]
  obtain ⟨h5,h6⟩:=hone.append h1;simp only [List.nil_append,List.singleton_append] at h5;refine ⟨_,⟨h5.le,h5.dom,fun id r hr => ?_,h5.blk,h5.inj⟩,?_⟩
  ·simp only [lk] at hr
   split at hr
   ·rename_i e
    subst e;simp at hr; subst hr
    refine ⟨b,cells,t,Ids.le_union_left _ _ _ _ (Ids.set_self ..),hh,h2,h3,fun i x hx => ?_⟩
    obtain ⟨v,q1,q2⟩:=h4 i x hx;exact ⟨v,q1,q2.mono h6 (fun _ h => h) fun _ _ => rfl⟩
   ·exact h5.ok id r hr
  ·have:=RelV.ptr (S:=S) (w:=w) n 0 0 b _ 1 1 (Ids.le_union_left _ τ _ _ (Ids.set_self (fun _=>none) n (Loc.row b (imL imCell (n + 1) cs).1.length 1 1))) (by omega)
   simpa using this
 ·exact OwnS.imp h n
 ·exact OwnS.imp h n
 ·exact OwnM.imp h n
 ·rename_i k xs
  obtain ⟨l,rfl,hg,hn,hlt,hk,hgam⟩:=h;have e1 : (Ids.set (Ids.set (fun _=>none) n (.tag l)) (n + 1) (.gen l bs)) n = some (.tag l):=by simp [Ids.set]
  have e2 : (Ids.set (Ids.set (fun _=>none) n (.tag l)) (n + 1) (.gen l bs)) (n + 1) = some (.gen l bs):=by simp [Ids.set]
  have e3 : ∀ id l',(Ids.set (Ids.set (fun _=>none) n (.tag l)) (n + 1) (.gen l bs)) id = some l' → (id = n∧l' = .tag l) ∨ (id = n + 1∧l' = .gen l bs):=by
   intro id l' h;unfold Ids.set at h;split at h
   ·cases h; exact .inr ⟨by assumption,rfl⟩
   ·split at h
    ·cases h; exact .inl ⟨by assumption,rfl⟩
    ·cases h
  have e4 : ∀ id b,Loc.has ((Ids.set (Ids.set (fun _=>none) n (.tag l)) (n + 1) (.gen l bs)) id) b → id = n + 1∧b ∈ bs:=by
   rintro id b ⟨l',h,hb⟩;rcases e3 id l' h with ⟨_,rfl⟩ | ⟨rfl,rfl⟩
   ·cases hb
   ·exact ⟨rfl,hb⟩
  refine ⟨_,⟨by simp,fun id l' h => ?_,fun id r hr => ?_,fun id b hb => (e4 id b hb).2,fun _ id id' b hb hb' => by rw [(e4 id b hb).1,(e4 id' b hb').1]⟩,.yieldV n l e1⟩
  ·have:=e3 id l' h; simp; omega
  ·simp only [lk] at hr
   split at hr
   ·rename_i e; subst e; simp at hr; subst hr; exact ⟨l,bs,e1,e2⟩
   ·split at hr
    ·rename_i e; subst e; simp at hr; subst hr; exact ⟨l,bs,e2,hg,hn,hlt,hk,hgam⟩
    ·cases hr
 ·rename_i h1 h2 h4 h5 h3
  obtain ⟨rfl,h⟩:=h;split
  ·rename_i cs; exact absurd rfl (h1 cs)
  ·rename_i sz es; exact absurd rfl (h2 sz es)
  ·rename_i sz es; exact absurd rfl (h4 sz es)
  ·rename_i ks keys vals; exact absurd rfl (h5 ks keys vals)
  ·rename_i k xs; exact absurd rfl (h3 k xs)
  ·exact ⟨_,Imp.empty n,.imm h⟩
theorem imArgs_sound : ∀ {vs : List Value} {as : List AV} {bs : List Nat} (n : Nat),LiftL (ArgR P Γ S w) vs as bs →
  ∃ τ,Imp P Γ S w n (imArgs n as).2.2.2 (imArgs n as).2.1 bs τ∧vs.length = (imArgs n as).1.length∧∀ (i : Nat) v c,vs[i]? = some v → (imArgs n as).1[i]? = some c → RelV τ S w v c
 | [],[],bs,n,h => by
  have : bs = []:=h;subst this;exact ⟨_,Imp.empty n,rfl,by simp [imArgs]⟩
 | v :: vs,a :: as,bs,n,h => by
  obtain ⟨b1,b2,h1,h2,rfl⟩:=h;obtain ⟨τ1,i1,r1⟩:=imArg_sound h1 n;obtain ⟨τ2,i2,l2,r2⟩:=imArgs_sound (imArg n a).2.2 h2;obtain ⟨i3,hle⟩:=i1.append i2;refine ⟨τ1.union τ2,i3,by simp [imArgs,l2],fun i u c hu hc => ?_⟩
  cases i with
  | zero =>
   simp [imArgs] at hu hc;subst hu hc;exact r1.mono (Ids.le_union_left _ _) (fun _ h => h) fun _ _ => rfl
  | succ i =>
   simp [imArgs] at hu hc;exact (r2 i u c hu hc).mono hle (fun _ h => h) fun _ _ => rfl
 | [],_ :: _,_,_,h => h.elim
 | _ :: _,[],_,_,h => h.elim
end
end Go.Abs
namespace Go.Abs
def AV.isLent : AV → Bool
 | .bor _ | .borS .. | .ylog .. | .borM .. => true
 | _ => false
def lentVals : List Value → List AV → List Value
 | v :: vs,a :: as => if a.isLent then v :: lentVals vs as else lentVals vs as
 | _,_ => []
def CallPost (P : Program) (Γ : Gam) (S : Nat → Prop) (w : World) (bs : List Nat) (lent : List Value) (res : AV) (outs : List AV) (e : Ending) (w' : World) : Prop :=
 ∃ v S' bs1 bs2,e = .returned v∧OwnR S' w' v res bs1∧LiftL (ArgR P Γ S' w') lent outs bs2∧(bs1 ++ bs2).Nodup ∧
  (∀ b ∈ bs1 ++ bs2,¬ S' b∧(w.heap.size≤b ∨ b ∈ bs)∧b < w'.heap.size)∧(∀ b,S b → S' b)∧(∀ b,S' b → (S b ∨ w.heap.size≤b ∨ b ∈ bs)∧b < w'.heap.size) ∧
  (∀ b,b < w.heap.size → b ∉ bs → w'.heap[b]? = w.heap[b]?)∧Same w w'
def CallOk (P : Program) (f : Nat) (args : List AV) (res : AV) (outs : List AV) : Prop :=
 ∀ (Γ : Gam) (S : Nat → Prop) (w : World) (vs : List Value) (bs : List Nat),LiftL (ArgR P Γ S w) vs args bs → bs.Nodup → (∀ b ∈ bs,¬ S b∧b < w.heap.size) → (∀ b,S b → b < w.heap.size) → GlobOk S w →
  Calls P f vs.toArray w (CallPost P Γ S w bs (lentVals vs args) res outs)
section
variable {P : Program} {Γ : Gam} {Own : Nat → Prop} {σ : Ids} {S : Nat → Prop} {w : World} {R : Nat → Option Row} {s : Nat} {T : Nat → Option AV} {a : Act} {o : Oper} {e : Eff}
theorem ArgR_imm {v : Value} {x : AV} (h : RelI S w v x) (h1 : ∀ cs,x ≠ .bor cs) (h2 : ∀ sz es,x ≠ .borS sz es) (h3 : ∀ k xs,x ≠ .ylog k xs) (h4 : ∀ sz es,x ≠ .own sz es) : ArgR P Γ S w v x []:=by
 unfold ArgR;split
 ·rename_i cs; exact absurd rfl (h1 cs)
 ·rename_i sz es; exact absurd rfl (h2 sz es)
 ·rename_i sz es; exact absurd rfl (h4 sz es)
 ·cases h
 ·rename_i k xs; exact absurd rfl (h3 k xs)
 ·exact ⟨rfl,h⟩
theorem lendArg_sound (hR : RowsOk P Γ Own σ S w R) {lent : Bool} {x : AV} {l : Lent} {v : Value} (h : lendArg R lent x = some l) (hv : RelV σ S w v x) :
  ∃ y,l.vs = [y]∧ArgR P Γ (Locked σ S R l.fz) w v y (blocksOf σ l.mv)∧(∀ i ∈ l.mv,∃ r,R i = some r) ∧
   ((l.out = []∧y.isLent = false) ∨ (∃ id,l.out = [id]∧id ∈ l.mv∧y.isLent = true∧((∃ cs,R id = some (.box cs)∧x = .ptr id 0 0∧∃ cs',y = .bor cs') ∨ (∃ sz es,R id = some (.arr sz es)∧x = .slice id 0 es.length∧y = .borS sz es) ∨ (∃ m k xs,R id = some (.num m)∧x = .yieldT id∧y = .ylog k xs) ∨ (∃ ks keys vals,(R id).bind Row.asM = some (ks,keys,vals)∧x = .mapp id∧y = .borM ks keys vals)))):=by
 have rowsMv : ∀ {as : List AV} {r : List AV × List Nat × List Nat},exL (exCell R) as = some r → ∀ i ∈ r.2.1,∃ q,R i = some q:=by
  intro as;induction as with
  | nil => intro r h; simp [exL] at h; subst h; simp
  | cons c as ih =>
   intro r h;simp only [exL] at h;split at h
   ·cases h
   ·rename_i x hx
    split at h
    ·cases h
    ·rename_i ys m z hy
     simp at h; subst h
     intro i hi;rcases List.mem_append.1 hi with hi | hi
     ·unfold exCell at hx
      split at hx
      ·simp at hx; subst hx; simp at hi
      ·split at hx
       ·rename_i hr
        split at hx
        ·simp at hx; subst hx; simp at hi; subst hi; exact ⟨_,hr⟩
        ·split at hx
         ·simp at hx; subst hx; simp at hi; subst hi; exact ⟨_,hr⟩
         split at hx
         ·simp at hx; subst hx; simp at hi
         ·cases hx
       ·cases hx
      ·cases hx
      ·cases hx
      ·simp at hx; subst hx; simp at hi
      ·split at hx
       ·rename_i hr
        split at hx
        ·simp at hx; subst hx; simp at hi; subst hi; exact ⟨_,hr⟩
        ·cases hx
       ·cases hx
      ·split at hx
       ·rename_i hr
        split at hx
        ·simp at hx; subst hx; simp at hi; subst hi; exact ⟨_,hr⟩
        ·cases hx
       ·cases hx
      ·split at hx
       ·simp at hx; subst hx; simp at hi
       ·cases hx
     ·exact ih hy i hi
 unfold lendArg at h;split at h
 ·rename_i q
  unfold lendLog at h;split at h
  ·rename_i m hq
   split at h
   ·rename_i k xs hm
    simp only [Option.some.injEq] at h; subst h
    obtain ⟨l,C,q1,q2⟩:=hR.ok q _ hq;obtain ⟨l',C',q3,hg,hn,hlt,hk,hgam⟩:=hR.ok m _ hm;rw [q2] at q3;simp only [Option.some.injEq,Loc.gen.injEq] at q3;obtain ⟨rfl,rfl⟩:=q3;cases hv with
    | imm h => cases h
    | yieldV _ l2 h2 =>
     rw [q1] at h2;simp only [Option.some.injEq,Loc.tag.injEq] at h2;subst h2;have e : blocksOf σ [q,m] = C:=by simp [blocksOf,q1,q2,locB,Loc.blocks]
     refine ⟨.ylog k xs,rfl,by rw [e]; exact ⟨l,rfl,hg,hn,hlt,hk,hk.up hgam fun _ h => .inl h⟩,fun i hi => ?_,.inr ⟨q,rfl,by simp,rfl,.inr (.inr (.inl ⟨m,k,xs,hq,rfl,rfl⟩))⟩⟩
     simp at hi;rcases hi with rfl | rfl
     ·exact ⟨_,hq⟩
     ·exact ⟨_,hm⟩
   ·cases h
  ·cases h
 ·split at h
  ·split at h
   ·rename_i id _
    split at h
    ·rename_i cs hr
     split at h
     ·rename_i cs' m z hx
      simp at h; subst h
      refine ⟨.bor cs',rfl,exBox_sound hR hr hx hv,fun i hi => ?_,.inr ⟨id,rfl,by simp,rfl,.inl ⟨cs,hr,rfl,cs',rfl⟩⟩⟩
      rcases List.mem_cons.1 hi with rfl | hi
      ·exact ⟨_,hr⟩
      ·exact rowsMv hx i hi
     ·cases h
    ·cases h
   ·rename_i id len _
    split at h
    ·rename_i sz es hr
     split at h
     ·rename_i hl
      simp at h; subst h
      subst hl;exact ⟨.borS sz es,rfl,(row_own hR hr rfl rfl hv).lock,fun i hi => by simp at hi; subst hi; exact ⟨_,hr⟩,.inr ⟨id,rfl,by simp,rfl,.inr (.inl ⟨sz,es,hr,rfl,rfl⟩)⟩⟩
     ·cases h
    ·cases h
   ·rename_i id _
    split at h
    ·rename_i row hr
     split at h
     ·rename_i ks keys vals ha
      simp at h; subst h
      refine ⟨.borM ks keys vals,rfl,?_,fun i hi => by simp at hi; subst hi; exact ⟨_,hr⟩,.inr ⟨id,rfl,by simp,rfl,.inr (.inr (.inr ⟨ks,keys,vals,by rw [hr]; exact ha,rfl,rfl⟩))⟩⟩
      obtain ⟨r,es,clock,hk,hh,he⟩:=asM_ok (hR.ok id _ hr) ha;cases hv with
      | imm hv => cases hv
      | mapp _ r' hσ =>
       have q:=hk.symm.trans hσ;simp only [Option.some.injEq,Loc.map.injEq] at q;subst q;exact ⟨r,es,clock,rfl,by simp [blocksOf,hk,locB,Loc.blocks],hh,he⟩
     ·cases h
    ·cases h
   ·cases h
  ·split at h
   ·rename_i v' ids hf
    simp at h; subst h
    have hno:=frz_notOwn hf;refine ⟨v',rfl,ArgR_imm (frz_sound hR _ hf hv) hno.2.1 hno.2.2.1 (frz_notLog hf) hno.1,by simp,.inl ⟨rfl,?_⟩⟩
    have hbm:=frz_sound hR _ hf hv;cases v' <;> first | rfl | exact absurd rfl (hno.2.1 _) | exact absurd rfl (hno.2.2.1 _ _) | exact absurd rfl (frz_notLog hf _ _) | cases hbm
   ·cases h
theorem giveArg_sound (hR : RowsOk P Γ Own σ S w R) {x : AV} {l : Lent} {v : Value} (h : giveArg R x = some l) (hv : RelV σ S w v x) :
  ∃ y,l.vs = [y]∧ArgR P Γ (Locked σ S R l.fz) w v y (blocksOf σ l.mv)∧(∀ i ∈ l.mv,∃ r,R i = some r)∧l.out = []∧y.isLent = false:=by
 unfold giveArg at h;split at h
 ·rename_i id len
  split at h
  ·rename_i sz es hr
   split at h
   ·rename_i hl
    simp at h; subst h
    exact ⟨.own sz es,rfl,(row_own hR hr rfl hl hv).lock,fun i hi => by simp at hi; subst hi; exact ⟨_,hr⟩,rfl,rfl⟩
   ·cases h
  ·cases h
 ·cases h
theorem passArg_sound (hR : RowsOk P Γ Own σ S w R) {bor : List Nat} {i : Nat} {x : AV} {l : Lent} {v : Value} (h : passArg R bor i x = some l) (hv : RelV σ S w v x) :
  ∃ y,l.vs = [y]∧ArgR P Γ (Locked σ S R l.fz) w v y (blocksOf σ l.mv)∧(∀ i ∈ l.mv,∃ r,R i = some r) ∧
   ((l.out = []∧y.isLent = false) ∨ (∃ id,l.out = [id]∧id ∈ l.mv∧y.isLent = true∧((∃ cs,R id = some (.box cs)∧x = .ptr id 0 0∧∃ cs',y = .bor cs') ∨ (∃ sz es,R id = some (.arr sz es)∧x = .slice id 0 es.length∧y = .borS sz es) ∨ (∃ m k xs,R id = some (.num m)∧x = .yieldT id∧y = .ylog k xs) ∨ (∃ ks keys vals,(R id).bind Row.asM = some (ks,keys,vals)∧x = .mapp id∧y = .borM ks keys vals)))):=by
 unfold passArg at h;split at h
 ·obtain ⟨y,h1,h2,h3,h4⟩:=giveArg_sound (Γ:=Γ) hR h hv
  exact ⟨y,h1,h2,h3,.inl h4⟩
 ·exact lendArg_sound hR h hv
def LentRows (σ : Ids) (S : Nat → Prop) (w : World) (R : Nat → Option Row) : List Value → List Nat → Prop
 | [],[] => True
 | v :: vs,id :: ids => ((∃ cs,R id = some (.box cs)∧RelV σ S w v (.ptr id 0 0)) ∨ (∃ sz es,R id = some (.arr sz es)∧RelV σ S w v (.slice id 0 es.length)) ∨ (∃ m,R id = some (.num m)∧RelV σ S w v (.yieldT id)) ∨ (∃ ks keys vals,(R id).bind Row.asM = some (ks,keys,vals)∧RelV σ S w v (.mapp id)))∧LentRows σ S w R vs ids
 | _,_ => False
theorem lendArgs_sound (hR : RowsOk P Γ Own σ S w R) {bor : List Nat} : ∀ {xs : List AV} {k : Nat} {l : Lent} {vs : List Value},lendArgs R bor k xs = some l → vs.length = xs.length →
  (∀ (i : Nat) v c,vs[i]? = some v → xs[i]? = some c → RelV σ S w v c) →
  LiftL (ArgR P Γ (Locked σ S R l.fz) w) vs l.vs (blocksOf σ l.mv)∧(∀ i ∈ l.mv,∃ r,R i = some r)∧(∀ i ∈ l.out,i ∈ l.mv)∧LentRows σ S w R (lentVals vs l.vs) l.out
 | [],k,l,[],h,_,_ => by simp [lendArgs] at h; subst h; simp [LiftL,blocksOf,lentVals,LentRows]
 | [],_,_,_ :: _,_,hl,_ => by simp at hl
 | _ :: _,_,_,[],_,hl,_ => by simp at hl
 | x :: xs,k,l,v :: vs,h,hl,hr => by
  simp only [lendArgs] at h;split at h
  ·cases h
  ·rename_i la hla
   split at h
   ·cases h
   ·rename_i lb hlb
    simp at h; subst h
    obtain ⟨y,hy,h1,h2,h3⟩:=passArg_sound (Γ:=Γ) hR hla (hr 0 v x rfl rfl);obtain ⟨g1,g2,g3,g4⟩:=lendArgs_sound hR hlb (by simpa using hl) (fun i v c hv hc => hr (i + 1) v c (by simpa using hv) (by simpa using hc))
    refine ⟨?_,fun i hi => ?_,fun i hi => ?_,?_⟩
    ·simp only [hy,List.singleton_append]
     exact ⟨_,_,h1.mono (Locked.weaken fun i hi => List.mem_append_left _ hi),g1.mono fun _ _ _ => ArgR.mono (Locked.weaken fun i hi => List.mem_append_right _ hi),by simp [blocksOf_append]⟩
    ·rcases List.mem_append.1 hi with hi | hi
     ·exact h2 i hi
     ·exact g2 i hi
    ·rcases List.mem_append.1 hi with hi | hi
     ·rcases h3 with ⟨h3,_⟩ | ⟨id,h3,hm,_⟩
      ·rw [h3] at hi; cases hi
      ·rw [h3] at hi; simp at hi; subst hi; exact List.mem_append_left _ hm
     ·exact List.mem_append_right _ (g3 i hi)
    ·simp only [hy,List.singleton_append,lentVals]
     rcases h3 with ⟨h3,hlent⟩ | ⟨id,h3,hm,hlent,hcase⟩
     ·rw [hlent,h3]; simpa using g4
     ·rw [hlent,h3]
      simp only [if_true,List.singleton_append,LentRows];refine ⟨?_,g4⟩;have hv0:=hr 0 v x rfl rfl;rcases hcase with ⟨cs,q1,rfl,_⟩ | ⟨sz,es,q1,rfl,_⟩ | ⟨m,k,ys,q1,rfl,_⟩ | ⟨ks,keys,vals,q1,rfl,_⟩
      ·exact .inl ⟨cs,q1,hv0⟩
      ·exact .inr (.inl ⟨sz,es,q1,hv0⟩)
      ·exact .inr (.inr (.inl ⟨m,q1,hv0⟩))
      ·exact .inr (.inr (.inr ⟨ks,keys,vals,q1,hv0⟩))
theorem RowOk.nodup {id : Nat} {r : Row} {l : Loc} (h : RowOk P Γ σ S w id r) (hl : σ id = some l) : l.blocks.Nodup:=by
 cases r with
 | arr sz es =>
  rcases h with ⟨h,_⟩ | ⟨b,c,cs,t,h,_⟩ <;> rw [hl] at h <;> cases h
  ·exact List.nodup_nil
  ·simp [Loc.blocks]
 | box xs => obtain ⟨b,cs,t,h,_⟩:=h; rw [hl] at h; cases h; simp [Loc.blocks]
 | mp k kv => obtain ⟨b,cs,t,h,_⟩:=h; rw [hl] at h; cases h; simp [Loc.blocks]
 | mpS ks keys vals => obtain ⟨b,cs,t,h,_⟩:=h; rw [hl] at h; cases h; simp [Loc.blocks]
 | mpV k kv => obtain ⟨b,cs,t,h,_⟩:=h; rw [hl] at h; cases h; simp [Loc.blocks]
 | mpE ks keys vals i q => obtain ⟨b,cs,t,n,h,_⟩:=h; rw [hl] at h; cases h; simp [Loc.blocks]
 | iter left cur => obtain ⟨r,m,es,clock,since,c0,seen,left',h,hrm,_⟩:=h; rw [hl] at h; cases h; simp [Loc.blocks,hrm]
 | num m => obtain ⟨l',C,h,_⟩:=h; rw [hl] at h; cases h; exact List.nodup_nil
 | tab sz es =>
  rcases h with ⟨h,_⟩ | ⟨l',h,ht⟩ <;> rw [hl] at h <;> cases h
  ·exact List.nodup_nil
  ·obtain ⟨b0,c0,inn0,cells,t',rfl,g2,g3,g4,g5,g6,g7,g8,g9,g10⟩:=ht
   exact g9
 | log k xs => obtain ⟨l',C,h,_,hn,_⟩:=h; rw [hl] at h; cases h; exact hn
theorem locB_has {id b : Nat} (h : b ∈ locB (σ id)) : Loc.has (σ id) b:=by
 cases hs : σ id with
 | none => rw [hs] at h; cases h
 | some l => rw [hs] at h; exact ⟨l,rfl,h⟩
theorem blocksOf_nodup (hR : RowsOk P Γ Own σ S w R) : ∀ {ids : List Nat},nodup ids = true → (∀ i ∈ ids,∃ r,R i = some r) → (blocksOf σ ids).Nodup
 | [],_,_ => by simp [blocksOf]
 | i :: ids,h,hr => by
  simp only [Go.Abs.nodup,Bool.and_eq_true,Bool.not_eq_true'] at h;have ih:=blocksOf_nodup hR h.2 fun j hj => hr j (List.mem_cons_of_mem _ hj)
  have e : blocksOf σ (i :: ids) = locB (σ i) ++ blocksOf σ ids:=by simp [blocksOf]
  obtain ⟨r,hri⟩:=hr i (List.mem_cons_self ..);rw [e];refine List.nodup_append.2 ⟨?_,ih,fun b hb b' hb' hbb => ?_⟩
  ·cases hs : σ i with
   | none => exact List.nodup_nil
   | some l => exact (hR.ok i r hri).nodup hs
  ·subst hbb
   obtain ⟨j,hj,hjb⟩:=mem_blocksOf hb';obtain ⟨r',hrj⟩:=hr j (List.mem_cons_of_mem _ hj);have:=hR.inj i j r r' b hri hrj (locB_has hb) hjb;subst this;have h1:=h.1;simp at h1;exact h1 hj
end
end Go.Abs
namespace Go.Abs
section
variable {P : Program} {Γ : Gam} {Own : Nat → Prop} {σ : Ids} {S : Nat → Prop} {w : World} {R : Nat → Option Row} {s : Nat} {T : Nat → Option AV} {a : Act} {o : Oper} {e : Eff}
theorem RowOk.some {τ : Ids} {id : Nat} {r : Row} (h : RowOk P Γ τ S w id r) : ∃ l,τ id = some l:=by
 cases r with
 | arr sz es => rcases h with ⟨h,_⟩ | ⟨b,c,cs,t,h,_⟩ <;> exact ⟨_,h⟩
 | box xs => obtain ⟨b,cs,t,h,_⟩:=h; exact ⟨_,h⟩
 | mp k kv => obtain ⟨b,cs,t,h,_⟩:=h; exact ⟨_,h⟩
 | mpS ks keys vals => obtain ⟨b,cs,t,h,_⟩:=h; exact ⟨_,h⟩
 | mpV k kv => obtain ⟨b,cs,t,h,_⟩:=h; exact ⟨_,h⟩
 | mpE ks keys vals i q => obtain ⟨b,cs,t,n,h,_⟩:=h; exact ⟨_,h⟩
 | iter left cur => obtain ⟨r,m,es,clock,since,c0,seen,left',h,_⟩:=h; exact ⟨_,h⟩
 | num m => obtain ⟨l,C,h,_⟩:=h; exact ⟨_,h⟩
 | tab sz es => rcases h with ⟨h,_⟩ | ⟨l,h,_⟩ <;> exact ⟨_,h⟩
 | log k xs => obtain ⟨l,C,h,_⟩:=h; exact ⟨_,h⟩
theorem has_le {τ ρ : Ids} (h : τ.le ρ) {id : Nat} {l : Loc} (hl : τ id = some l) {b : Nat} (hb : Loc.has (ρ id) b) : Loc.has (τ id) b:=by
 obtain ⟨l',h1,h2⟩:=hb;rw [h id l hl] at h1;cases h1;exact ⟨l,hl,h2⟩
theorem RelV.ptr_inv {v : Value} {id idx off : Nat} (h : RelV σ S w v (.ptr id idx off)) : ∃ b sz n c,σ id = some (.row b sz n c)∧idx < n∧v = .pointer (some ⟨b,idx * sz + off,none⟩):=by
 cases h with
 | imm h => cases h
 | ptr _ _ _ b sz n c h h1 => exact ⟨b,sz,n,c,h,h1,rfl⟩
theorem RelV.slice_inv {v : Value} {id off len : Nat} (h : RelV σ S w v (.slice id off len)) : (σ id = some .virt∧off = 0∧len = 0∧∃ a,v = .slice a 0 0) ∨
  ∃ b sz n c cap a,σ id = some (.row b sz n c)∧off + len≤n∧n≤off + cap∧off + cap = c∧(cap ≠ 0 → a = ⟨b,off * sz,none⟩)∧v = .slice (some a) len cap:=by
 cases h with
 | imm h => cases h
 | sliceV _ a h => exact .inl ⟨h,rfl,rfl,a,rfl⟩
 | slice _ _ _ cap b sz n c a h h1 h2 h3 h4 => exact .inr ⟨b,sz,n,c,cap,a,h,h1,h2,h3,h4,rfl⟩
inductive F3 {α β γ : Type} (r : α → β → γ → Prop) : List α → List β → List γ → Prop
 | nil : F3 r [] [] []
 | cons {a b c as bs cs} : r a b c → F3 r as bs cs → F3 r (a :: as) (b :: bs) (c :: cs)
theorem F3.append {α β γ : Type} {r : α → β → γ → Prop} {as as' : List α} {bs bs' : List β} {cs cs' : List γ} (h : F3 r as bs cs) (h' : F3 r as' bs' cs') : F3 r (as ++ as') (bs ++ bs') (cs ++ cs'):=by
 induction h with
 | nil => exact h'
 | cons h1 _ ih => exact .cons h1 ih
theorem F3.len {α β γ : Type} {r : α → β → γ → Prop} {as : List α} {bs : List β} {cs : List γ} (h : F3 r as bs cs) : as.length = bs.length∧cs.length = bs.length:=by
 induction h with
 | nil => exact ⟨rfl,rfl⟩
 | cons _ _ ih => simp [ih.1,ih.2]
theorem F3.get {α β γ : Type} {r : α → β → γ → Prop} {as : List α} {bs : List β} {cs : List γ} (h : F3 r as bs cs) : ∀ {i : Nat} {b : β} {c : γ},bs[i]? = some b → cs[i]? = some c → ∃ a,as[i]? = some a∧r a b c:=by
 induction h with
 | nil => intro i b c hb; simp at hb
 | cons h1 _ ih =>
  intro i b c hb hc;cases i with
  | zero => simp at hb hc; subst hb hc; exact ⟨_,rfl,h1⟩
  | succ i => simp at hb hc; simpa using ih hb hc
def innB (o : Option (Nat × Nat)) : List Nat:=(o.map (·.1)).toList
theorem innB_filter (l : List (Option (Nat × Nat))) : l.filterMap (fun o=>o.map (·.1)) = l.flatMap innB:=by
 induction l with
 | nil => rfl
 | cons o l ih => cases o <;> simp [innB,ih]
theorem RowsOk.gather {w' : World} {l : Loc} {row : Row} {ids : List Nat} (h : RowsOk P Γ Own σ S w R) (hF : Free Own σ w s) (hids : ∀ id ∈ ids,∃ r,R id = some r)
  (hl : ∀ b ∈ l.blocks,w.heap.size≤b ∨ ∃ id ∈ ids,Loc.has (σ id) b)
  (hw : ∀ b,b < w.heap.size → (∀ id ∈ ids,¬ Loc.has (σ id) b) → w'.heap[b]? = w.heap[b]?) (hS : Same w w')
  (hr : (∀ b,S b → w'.heap[b]? = w.heap[b]?) → RowOk P Γ (σ.set s l) S w' s row) :
  RowsOk P Γ Own (σ.set s l) S w' (updR ((s,some row) :: gone ids) R)∧Ext Own σ S w (σ.set s l) S w':=by
 have hs:=hF.head;have hle : σ.le (σ.set s l):=Ids.le_set hs;have hkeep : ∀ b,S b → w'.heap[b]? = w.heap[b]?:=fun b hb => hw b (h.old b hb) fun id hid hh => by
  obtain ⟨r,hr⟩:=hids id hid;exact (h.apart id r b hr hh).1 hb
 have hR : ∀ j r,j ≠ s → updR ((s,some row) :: gone ids) R j = some r → R j = some r∧j ∉ ids:=fun j r hne hi => by
  simp only [updR,Ne.symm hne,if_false] at hi;rw [updR_gone] at hi;split at hi
  ·cases hi
  ·exact ⟨hi,by assumption⟩
 have hsb : ∀ b,Loc.has ((σ.set s l) s) b → ¬ S b∧Own b∧∀ j r,R j = some r → j ∉ ids → ¬ Loc.has (σ j) b:=by
  rintro b ⟨l',hl',hb⟩;simp at hl'; subst hl'
  rcases hl b hb with hb | ⟨id,hid,hb⟩
  ·exact ⟨fun hS=>absurd (h.old b hS) (by omega),hF.own b hb,fun j r hj _ hh => absurd (h.lt hj hh) (by omega)⟩
  ·obtain ⟨r0,hr0⟩:=hids id hid
   exact ⟨(h.apart id r0 b hr0 hb).1,(h.apart id r0 b hr0 hb).2,fun j r hj hn hh => hn (h.inj j id r r0 b hj hr0 hh hb ▸ hid)⟩
 refine ⟨⟨fun j r hi => ?_,fun j r b hi hb => ?_,fun j j' r r' b hi hi' hb hb' => ?_,fun b hb => Nat.lt_of_lt_of_le (h.old b hb) hS.size⟩,hle,fun _ h => h,hkeep,fun b hb => hw b ?_ ?_,hS,fun _ h => .inl h⟩
 ·by_cases hne : j = s
  ·subst hne
   simp [updR] at hi;subst hi; exact hr hkeep
  ·obtain ⟨hi',hnid⟩:=hR j r hne hi
   refine (h.ok j r hi').mono hle (fun _ h => h) hkeep hS.size fun b hb => hw b (h.lt hi' hb) fun id hid hh => ?_
   obtain ⟨r0,hr0⟩:=hids id hid;exact hnid (h.inj j id r r0 b hi' hr0 hb hh ▸ hid)
 ·by_cases hne : j = s
  ·subst hne
   exact ⟨(hsb b hb).1,(hsb b hb).2.1⟩
  ·rw [Ids.set_other hne] at hb
   exact h.apart j r b (hR j r hne hi).1 hb
 ·by_cases hne : j = s
  ·by_cases hne' : j' = s
   ·rw [hne,hne']
   ·subst hne
    rw [Ids.set_other hne'] at hb';obtain ⟨hi'',hnid⟩:=hR j' r' hne' hi';exact absurd hb' ((hsb b hb).2.2 j' r' hi'' hnid)
  ·by_cases hne' : j' = s
   ·subst hne'
    rw [Ids.set_other hne] at hb;obtain ⟨hi'',hnid⟩:=hR j r hne hi;exact absurd hb ((hsb b hb').2.2 j r hi'' hnid)
   ·rw [Ids.set_other hne] at hb
    rw [Ids.set_other hne'] at hb';exact h.inj j j' r r' b (hR j r hne hi).1 (hR j' r' hne' hi').1 hb hb'
 ·exact Nat.lt_of_not_le fun hle=>hb (hF.own b hle)
 ·intro id hid hh
  obtain ⟨r0,hr0⟩:=hids id hid;exact hb (h.apart id r0 b hr0 hh).2
theorem tabIn_sound (hR : RowsOk P Γ Own σ S w R) {a x : AV} {ids : List Nat} {v : Value} (h : tabIn R a = some (x,ids)) (hv : RelV σ S w v a) :
  ∃ o,TabCell w v x o∧(innB o).Sublist (blocksOf σ ids)∧x.cells = [x]∧v.cells = #[v]∧∀ i ∈ ids,∃ r,R i = some r:=by
 unfold tabIn at h;split at h
 ·simp only [Option.some.injEq,Prod.mk.injEq] at h
  obtain ⟨rfl,rfl⟩:=h;have : ∃ b,v = .slice b 0 0:=by cases hv with | imm hv => cases hv; exact ⟨_,rfl⟩
  obtain ⟨b,rfl⟩:=this;exact ⟨none,.inr ⟨[],rfl,by simp,.inl ⟨rfl,rfl,b,rfl⟩⟩,by simp [innB],rfl,rfl,by simp⟩
 ·rename_i id len
  split at h
  ·rename_i es hr
   split at h
   ·rename_i hc
    obtain ⟨rfl,hpl⟩:=hc;simp only [Option.some.injEq,Prod.mk.injEq] at h;obtain ⟨rfl,rfl⟩:=h;have hp : ∀ y ∈ es,y.plain1 = true:=by simpa using hpl
    have hid : ∀ i ∈ [id],∃ r,R i = some r:=fun i hi => by rw [List.mem_singleton.1 hi]; exact ⟨_,hr⟩
    rcases hv.slice_inv with ⟨hσ,_,h0,b,rfl⟩ | ⟨b,sz,n,c,cap,ad,hσ,h1,h2,h3,h4,rfl⟩
    ·have : es = []:=List.length_eq_zero_iff.1 h0
     subst this;exact ⟨none,.inr ⟨[],rfl,by simp,.inl ⟨rfl,rfl,b,rfl⟩⟩,by simp [innB],rfl,rfl,hid⟩
    ·rcases hR.ok id _ hr with ⟨hk,_⟩ | ⟨b',c',cur,te,hk,hh,hs,hn',hmax,hp',hel,hf⟩
     ·rw [hk] at hσ; cases hσ
     ·rw [hk] at hσ
      simp only [Option.some.injEq,Loc.row.injEq] at hσ;obtain ⟨rfl,rfl,rfl,rfl⟩:=hσ;have hcc : cap = c':=by omega
      subst hcc;by_cases hc0 : cap = 0
      ·subst hc0
       have : es = []:=List.length_eq_zero_iff.1 (by omega)
       subst this;exact ⟨none,.inr ⟨[],rfl,by simp,.inl ⟨rfl,rfl,some ad,rfl⟩⟩,by simp [innB],rfl,rfl,hid⟩
      ·obtain rfl:=h4 hc0
       refine ⟨some (b',cap),.inr ⟨es,rfl,hp,.inr ⟨b',cap,cur,te,rfl,by simp,hh,by omega,by omega,hmax,fun j y hj => ?_⟩⟩,by simp [innB,blocksOf,hk,locB,Loc.blocks],rfl,rfl,hid⟩
       have hfl:=flat_plain hp;obtain ⟨u,hu,hrel⟩:=hf j y (by rw [hfl]; exact hj)
       rw [hu,plain1_val (σ:=σ) (S:=S) (w:=w) (hp y (List.mem_of_getElem? hj)) (.imm hrel)]
   ·cases h
  ·cases h
 ·split at h
  ·rename_i hpl
   simp only [Option.some.injEq,Prod.mk.injEq] at h;obtain ⟨rfl,rfl⟩:=h;have e:=plain1_val hpl hv;refine ⟨none,.inl ⟨hpl,rfl,e⟩,by simp [innB],plain1_cells hpl,?_,by simp⟩
   subst e;cases a <;> simp [AV.plain1] at hpl <;> rfl
  ·cases h
def TabCellsL (w : World) (us : List Value) (xs : List AV) (os : List (Option (Nat × Nat))) : Prop:=F3 (TabCell w) us xs os
theorem tabInL_sound (hR : RowsOk P Γ Own σ S w R) : ∀ {cs cs' : List AV} {ids : List Nat} {us : List Value},frzL (tabIn R) cs = some (cs',ids) → us.length = cs.length → (∀ (i : Nat) u c,us[i]? = some u → cs[i]? = some c → RelV σ S w u c) →
  ∃ os,F3 (TabCell w) us cs' os∧(os.flatMap innB).Sublist (blocksOf σ ids)∧∀ i ∈ ids,∃ r,R i = some r
 | [],cs',ids,us,h,hl,_ => by
  simp only [frzL,Option.some.injEq,Prod.mk.injEq] at h;obtain ⟨rfl,rfl⟩:=h;have : us = []:=List.length_eq_zero_iff.1 hl;subst this;exact ⟨[],.nil,by simp,by simp⟩
 | c :: cs,cs',ids,us,h,hl,hr => by
  simp only [frzL] at h;split at h
  ·cases h
  ·rename_i x i1 hx
   split at h
   ·cases h
   ·rename_i xs i2 hxs
    simp only [Option.some.injEq,Prod.mk.injEq] at h;obtain ⟨rfl,rfl⟩:=h;cases us with
    | nil => simp at hl
    | cons u us =>
     obtain ⟨o,h1,h2,_,_,h5⟩:=tabIn_sound hR hx (hr 0 u c rfl rfl);obtain ⟨os,g1,g2,g3⟩:=tabInL_sound hR hxs (by simpa using hl) fun i u c hu hc => hr (i + 1) u c (by simpa using hu) (by simpa using hc)
     refine ⟨o :: os,.cons h1 g1,?_,fun i hi => ?_⟩
     ·rw [blocksOf_append]
      simpa using h2.append g2
     ·rcases List.mem_append.1 hi with hi | hi
      ·exact h5 i hi
      ·exact g3 i hi
theorem tabEl_sound (hR : RowsOk P Γ Own σ S w R) {a x : AV} {ids : List Nat} {v : Value} (h : tabEl R a = some (x,ids)) (hv : RelV σ S w v a) :
  ∃ os,F3 (TabCell w) v.cells.toList x.cells os∧(os.flatMap innB).Sublist (blocksOf σ ids)∧∀ i ∈ ids,∃ r,R i = some r:=by
 unfold tabEl at h;split at h
 ·rename_i cs
  split at h
  ·rename_i cs' ids' hx
   simp only [Option.some.injEq,Prod.mk.injEq] at h;obtain ⟨rfl,rfl⟩:=h;obtain ⟨vs,rfl,hl,hr⟩:=hv.agg_inv;exact tabInL_sound hR hx (us:=vs.toList) (by simpa using hl) fun i u c hu hc => hr i u c (by simpa using hu) hc
  ·cases h
 ·obtain ⟨o,h1,h2,h3,h4,h5⟩:=tabIn_sound hR h hv
  refine ⟨[o],?_,by simpa using h2,h5⟩
  rw [h3,h4];exact .cons h1 .nil
theorem tabElL_sound (hR : RowsOk P Γ Own σ S w R) : ∀ {as es : List AV} {ids : List Nat} {vs : List Value},frzL (tabEl R) as = some (es,ids) → vs.length = as.length → (∀ (i : Nat) v a,vs[i]? = some v → as[i]? = some a → RelV σ S w v a) →
  ∃ os,F3 (TabCell w) (vs.flatMap fun v=>v.cells.toList) (flat es) os∧(os.flatMap innB).Sublist (blocksOf σ ids)∧es.length = as.length∧(∀ (i : Nat) v e,vs[i]? = some v → es[i]? = some e → v.cells.size = e.cells.length)∧∀ i ∈ ids,∃ r,R i = some r
 | [],es,ids,vs,h,hl,_ => by
  simp only [frzL,Option.some.injEq,Prod.mk.injEq] at h;obtain ⟨rfl,rfl⟩:=h;have : vs = []:=List.length_eq_zero_iff.1 hl;subst this;exact ⟨[],.nil,by simp,rfl,by simp,by simp⟩
 | a :: as,es,ids,vs,h,hl,hr => by
  simp only [frzL] at h;split at h
  ·cases h
  ·rename_i x i1 hx
   split at h
   ·cases h
   ·rename_i xs i2 hxs
    simp only [Option.some.injEq,Prod.mk.injEq] at h;obtain ⟨rfl,rfl⟩:=h;cases vs with
    | nil => simp at hl
    | cons v vs =>
     obtain ⟨o,h1,h2,h5⟩:=tabEl_sound hR hx (hr 0 v a rfl rfl);obtain ⟨os,g1,g2,g3,g4,g5⟩:=tabElL_sound hR hxs (by simpa using hl) fun i u c hu hc => hr (i + 1) u c (by simpa using hu) (by simpa using hc)
     refine ⟨o ++ os,?_,?_,by simp [g3],fun i u e hu he => ?_,fun i hi => ?_⟩
     ·simp only [List.flatMap_cons,flat] at g1 ⊢
      exact h1.append g1
     ·rw [blocksOf_append,List.flatMap_append]
      exact h2.append g2
     ·cases i with
      | zero =>
       simp at hu he; subst hu he
       have:=h1.len.1;simpa using this
      | succ i => exact g4 i u e (by simpa using hu) (by simpa using he)
     ·rcases List.mem_append.1 hi with hi | hi
      ·exact h5 i hi
      ·exact g5 i hi
theorem parts_zip : ∀ (l : List (Nat × Value)) (k : Nat),l.map (·.1) = List.range' k l.length → l = ((l.map (·.2)).zipIdx k).map fun x=>(x.2,x.1)
 | [],_,_ => rfl
 | (i,v) :: l,k,h => by
  simp only [List.map_cons,List.length_cons,List.range'_succ,List.cons.injEq] at h;obtain ⟨rfl,h⟩:=h;simp only [List.map_cons,List.zipIdx_cons,List.cons.injEq,true_and];exact parts_zip l _ h
theorem TabCell.keep2 {w' : World} {v : Value} {x : AV} {o : Option (Nat × Nat)} (hw : ∀ b,b < w.heap.size → w'.heap[b]? = w.heap[b]?) (h : TabCell w v x o) : TabCell w' v x o:=by
 rcases h with h | ⟨xs,q1,q2,q3 | ⟨b',c',cs',t',r1,r2,r3,r4⟩⟩
 ·exact .inl h
 ·exact .inr ⟨xs,q1,q2,.inl q3⟩
 ·exact .inr ⟨xs,q1,q2,.inr ⟨b',c',cs',t',r1,r2,by rw [hw b' (Array.getElem?_eq_some_iff.1 r3).1]; exact r3,r4⟩⟩
theorem mkTab_sound {t el : TypeId} {n len : Nat} {z : AV} {parts : Array (Nat × Operand)} {ps : List (Nat × AOpd)} (hT : TmpsOk σ S w T a) (hR : RowsOk P Γ Own σ S w R) (hF : Free Own σ w s)
  (ho : o.op = .buildSlice t len parts) (ht : P.underlying t = some (.slice el)) (hn : szOf P el = some n) (hz : zeroOf P el = some z)
  (hps : mapO (fun p : Nat × Operand => match opd P (some el) p.2 with
     | some a => some (p.1,a)
     | none => none) parts.toList = some ps) (h0 : 0 < n) (hlen : len * n≤65536) (hzl : z.cells.length = n)
  (hix : parts.toList.map (·.1) = List.range len)
  (h : evMkTab s (getO T) R n (ps.map (·.2)) = some e) : ∃ v w',OpRuns P a o w v w'∧Step P Γ Own σ S w R s e v w':=by
 unfold zeroOf at hz;split at hz
 ·rename_i i hi
  split at hz
  ·rename_i zv hzv
   split at hz
   ·rename_i hzsz
    have hin : i.size = n:=by simpa [szOf,hi] using hn
    unfold evMkTab at h;split at h
    ·rename_i as has
     split at h
     ·rename_i es ids hes
      split at h
      ·rename_i hcond
       simp only [Bool.and_eq_true] at hcond;obtain ⟨hc1,hc2⟩:=hcond;simp only [Option.some.injEq] at h; subst h
       obtain ⟨l1,l2⟩:=mapO_spec hps;obtain ⟨l3,l4⟩:=mapO_spec has;have hesz : ∀ e ∈ es,e.cells.length = n:=by simpa using hc1
       have hpl : parts.toList.length = len:=by have:=congrArg List.length hix; simpa using this
       obtain ⟨os,f1,f2,f3,f4,f5⟩:=tabElL_sound hR hes (vs:=parts.toList.map fun p=>a.eval p.2) (by simp [l3,l1]) fun k v av hv hav => by
        simp only [List.getElem?_map,Option.map_eq_some_iff] at hv;obtain ⟨p0,hp0,rfl⟩:=hv;have hk : k < ps.length:=by have:=(List.getElem?_eq_some_iff.1 hp0).1; omega
        have e1:=l2 k _ _ hp0 (List.getElem?_eq_getElem hk);have e2:=l4 k _ _ (by rw [List.getElem?_map,List.getElem?_eq_getElem hk]; rfl) hav
        split at e1
        ·rename_i ao hao
         simp only [Option.some.injEq] at e1;rw [← e1] at e2;exact Yp hT hao e2
        ·cases e1
       have hel : es.length = len:=by rw [f3,l3,List.length_map,l1,hpl]
       have hfl:=flat_length2 hesz;have hvs : ∀ v ∈ parts.toList.map (fun p=>a.eval p.2),v.cells.size = n:=fun v hv => by
        obtain ⟨k,hk,rfl⟩:=List.getElem_of_mem hv;have hk2 : k < es.length:=by simp at hk; rw [hel,← hpl]; simpa using hk
        rw [f4 k _ _ (List.getElem?_eq_getElem hk) (List.getElem?_eq_getElem hk2)];exact hesz _ (List.getElem_mem hk2)
       have hfill : ∀ cells : Array Value,cells.size = len * n → Instr.fill (fun i=>some (i * n,n)) cells (parts.map fun p=>(p.1,a.eval p.2)).toList = some ((parts.toList.map fun p=>a.eval p.2).flatMap fun v=>v.cells.toList).toArray:=fun cells hcs => by
        have hw:=Go.Great.fill_whole h0 (parts.toList.map fun p=>a.eval p.2) cells hvs (by rw [List.length_map,hpl,hcs])
        rw [← hw]
        congr 1
        have:=parts_zip (parts.map fun p=>(p.1,a.eval p.2)).toList 0 (by
         simp only [Array.toList_map,List.map_map,List.length_map,hpl];rw [← List.range_eq_range',← hix];rfl)
        rw [this];simp [List.map_map,Function.comp_def]
       generalize hus : ((parts.toList.map fun p=>a.eval p.2).flatMap fun v=>v.cells.toList) = us at *
       have hul : us.length = len * n:=by rw [f1.len.1,hfl,hel]
       have hrun : (Instr.buildSlice t len (parts.map fun (i,x) => (i,a.eval x))).run P w = .ok (.slice (some ⟨w.heap.size,0,none⟩) len len) (w.alloc (.cells us.toArray el)):=by
        unfold Instr.buildSlice;simp only [Sem.run_bind,run_underlying ht,Result.andThen_ok,sizeOf,typeInfo,run_program,hi,Sem.run_pure,hin];have hbig : ¬ (len * n > 2 ^ 24):=by omega
        simp only [hbig,if_false,Sem.run_bind,Sem.run_pure,Result.andThen_ok,pure_bind];have heq : (parts.map fun (x : Nat × Operand) => match x with | (i,x) => (i,a.eval x)).toList = (parts.map fun p=>(p.1,a.eval p.2)).toList:=rfl
        have hzc : zv.cells.size = n:=by rw [hzsz,hin]
        by_cases hz0 : len * n = 0
        ·simp only [hz0,if_true,Sem.run_pure,Result.andThen_ok]
         rw [heq,hfill _ (by simp [hz0])]
         simp [newRow]
        ·simp only [hz0,if_false,Sem.run_bind,zeroValue,typeInfo,run_program,Result.andThen_ok,hi,hzv,Sem.run_pure]
         rw [heq,hfill _ (by simp)]
         simp [newRow]
       have hexec : (execOp a.eval o).run P w = .ok (.value (.slice (some ⟨w.heap.size,0,none⟩) len len)) (w.alloc (.cells us.toArray el)):=by
        simp only [execOp,ho,Sem.run_bind,hrun,Result.andThen_ok,Sem.run_pure]
       have hbo : (Loc.tab w.heap.size n es.length len os).blocks = w.heap.size :: os.flatMap innB:=by simp only [Loc.blocks]; rw [innB_filter]
       have hnd:=blocksOf_nodup hR hc2 f5;have hold : ∀ b ∈ os.flatMap innB,∃ id ∈ ids,Loc.has (σ id) b:=fun b hb => mem_blocksOf (f2.subset hb)
       have hlt : ∀ b ∈ os.flatMap innB,b < w.heap.size:=fun b hb => by
        obtain ⟨id,hid,hh⟩:=hold b hb;obtain ⟨r,hr⟩:=f5 id hid;exact hR.lt hr hh
       obtain ⟨q1,q2⟩:=hR.gather (w':=w.alloc (.cells us.toArray el)) (l:=.tab w.heap.size n es.length len os) (row:=.tab n es) (ids:=ids) hF f5
        (fun b hb => by
         rw [hbo] at hb;rcases List.mem_cons.1 hb with rfl | hb
         ·exact .inl (Nat.le_refl _)
         ·exact .inr (hold b hb))
        (fun b hb _ => heap_alloc_old w _ b hb) (Same.alloc w _) (fun _=>.inr ⟨_,Ids.set_self ..,w.heap.size,len,os,us.toArray,el,rfl,heap_alloc_new w _,by simp [hul],by omega,by
         have : len≤len * n:=Nat.le_mul_of_pos_right _ h0;simp only [maxLen]; omega,h0,hesz,by rw [f1.len.2,hfl],by
         rw [hbo];exact List.nodup_cons.2 ⟨fun hb=>Nat.lt_irrefl _ (hlt _ hb),f2.nodup hnd⟩,fun j x o hx hoj => by
         obtain ⟨u,hu,hc⟩:=f1.get hx hoj;exact ⟨u,by simpa using hu,hc.keep2 fun b hb => heap_alloc_old w _ b hb⟩⟩)
       refine ⟨_,_,.inl hexec,_,S,?_,q1,q2,set_outside⟩;have:=RelV.tabS (σ:=σ.set s (.tab w.heap.size n es.length len os)) (S:=S) (w:=w.alloc (.cells us.toArray el)) s w.heap.size n es.length len os (Ids.set_self ..);rw [hel] at this ⊢;exact this
      ·cases h
     ·cases h
    ·cases h
   ·cases hz
  ·cases hz
 ·cases hz
theorem TabCell.oneCell {v : Value} {x : AV} {o : Option (Nat × Nat)} (h : TabCell w v x o) : v.oneCell' = true:=by
 rcases h with ⟨h1,_,rfl⟩ | ⟨xs,_,_,⟨_,_,ad,rfl⟩ | ⟨b',c',cs',t',_,rfl,_⟩⟩
 ·cases x <;> simp [AV.plain1] at h1 <;> rfl
 ·rfl
 ·rfl
theorem TabAt.news {b sz n c : Nat} {inn : List (Option (Nat × Nat))} {xs : List AV} {cs : Array Value} {t : TypeId} (hn : n = xs.length) (h3 : c * sz≤cs.size) (h4 : xs.length≤c) (h7 : ∀ e ∈ xs,e.cells.length = sz) (h8 : inn.length = xs.length * sz)
  (h10 : ∀ (i : Nat) x o,(flat xs)[i]? = some x → inn[i]? = some o → ∃ v,cs[i]? = some v∧TabCell w v x o) (hb : w.heap[b]? = some (.cells cs t (0,0))) :
  ∃ news : List Value,news.length = xs.length * sz∧(∀ (j : Nat) u,news[j]? = some u → w.cell? ((⟨b,0,none⟩ : Addr).add j) = some u)∧(∀ u ∈ news,u.oneCell' = true)∧∀ (i : Nat) x o,(flat xs)[i]? = some x → inn[i]? = some o → ∃ v,news[i]? = some v∧TabCell w v x o:=by
 have hsz : xs.length * sz≤cs.size:=Nat.le_trans (Nat.mul_le_mul_right sz h4) h3;have hfl:=flat_length2 h7;have hg : ∀ i,i < xs.length * sz → (cs.toList.take (xs.length * sz))[i]? = cs[i]?:=fun i hi => by
  rw [List.getElem?_take,if_pos hi,Array.getElem?_toList]
 refine ⟨cs.toList.take (xs.length * sz),by simp; omega,fun j u hu => ?_,fun u hu => ?_,fun i x o hx ho => ?_⟩
 ·rw [Addr.add_lit,cell_of_row w b _ cs t (0,0) hb,Nat.zero_add]
  have hj:=(List.getElem?_eq_some_iff.1 hu).1;rw [hg j (by simp at hj; omega)] at hu
  exact hu
 ·obtain ⟨j,hj,rfl⟩:=List.getElem_of_mem hu
  have hj2 : j < xs.length * sz:=by simp at hj; omega
  obtain ⟨v,hv,hc⟩:=h10 j _ _ (List.getElem?_eq_getElem (by omega)) (List.getElem?_eq_getElem (by omega))
  have:=hg j hj2;rw [List.getElem?_eq_getElem hj,hv] at this;cases this;exact hc.oneCell
 ·obtain ⟨v,hv,hc⟩:=h10 i x o hx ho
  have hi:=(List.getElem?_eq_some_iff.1 hx).1;exact ⟨v,by rw [hg i (by omega)]; exact hv,hc⟩
theorem appTab_at {w' : World} {b sz c : Nat} {es xs : List AV} {i1 i2 : List (Option (Nat × Nat))} {cs : Array Value} {t : TypeId} {olds news : List Value} (hb : w'.heap[b]? = some (.cells cs t (0,0))) (hc : c * sz≤cs.size) (hl : es.length + xs.length≤c) (hm : c≤maxLen) (h0 : 0 < sz)
  (e7 : ∀ e ∈ es,e.cells.length = sz) (x7 : ∀ e ∈ xs,e.cells.length = sz) (e8 : i1.length = es.length * sz) (x8 : i2.length = xs.length * sz) (hnd : (b :: (i1 ++ i2).flatMap innB).Nodup)
  (ho : olds.length = es.length * sz) (hcells : ∀ (j : Nat) u,(olds ++ news)[j]? = some u → cs[j]? = some u)
  (e10 : ∀ (i : Nat) x o,(flat es)[i]? = some x → i1[i]? = some o → ∃ v,olds[i]? = some v∧TabCell w' v x o)
  (x10 : ∀ (i : Nat) x o,(flat xs)[i]? = some x → i2[i]? = some o → ∃ v,news[i]? = some v∧TabCell w' v x o) :
  TabAt w' (.tab b sz (es ++ xs).length c (i1 ++ i2)) sz (es ++ xs):=by
 have hfe:=flat_length2 e7;have hfx:=flat_length2 x7;refine ⟨b,c,i1 ++ i2,cs,t,rfl,hb,hc,by simp; omega,hm,h0,fun e he => ?_,by simp [e8,x8,Nat.add_mul],?_,fun i x o hx hoi => ?_⟩
 ·rcases List.mem_append.1 he with he | he
  ·exact e7 e he
  ·exact x7 e he
 ·simp only [Loc.blocks]; rw [innB_filter]; exact hnd
 ·rw [flat_append] at hx
  by_cases hi : i < es.length * sz
  ·rw [List.getElem?_append_left (by omega)] at hx hoi
   obtain ⟨v,hv,hcc⟩:=e10 i x o hx hoi;exact ⟨v,hcells i v (by rw [List.getElem?_append_left (by omega)]; exact hv),hcc⟩
  ·rw [List.getElem?_append_right (by omega)] at hx hoi
   rw [hfe] at hx;rw [e8] at hoi;obtain ⟨v,hv,hcc⟩:=x10 _ x o hx hoi;exact ⟨v,hcells i v (by rw [List.getElem?_append_right (by omega),ho]; exact hv),hcc⟩
theorem RelV.tab_inv {v : Value} {id len : Nat} (h : RelV σ S w v (.tabS id len)) : (σ id = some .virt∧len = 0∧∃ a,v = .slice a 0 0) ∨ ∃ b sz c inn,σ id = some (.tab b sz len c inn)∧v = .slice (some ⟨b,0,none⟩) len c:=by
 cases h with
 | imm h => cases h
 | tabV _ a h => exact .inl ⟨h,rfl,a,rfl⟩
 | tabS _ b sz n c inn h => exact .inr ⟨b,sz,c,inn,h,rfl⟩
theorem appTab_sound {t el : TypeId} {i : TypeInfo} {z : Value} {d x : Operand} {ad ax : AOpd} {t1 t2 : Option TypeId} (hT : TmpsOk σ S w T a) (hR : RowsOk P Γ Own σ S w R) (hF : Free Own σ w s)
  (ho : o.op = .call ⟨.builtin .append,#[d,x],#[t,t]⟩) (ht : P.underlying t = some (.slice el)) (hi : P.info? el = some i) (hz : i.zero = some z) (hzs : z.cells.size = i.size)
  (h0 : 0 < i.size) (hby : i.bytes≤4096) (hd : opd P t1 d = some ad) (hx : opd P t2 x = some ax) (h : evAppTab s (getO T) R i.size ad ax = some e) :
  ∃ v w',OpRuns P a o w v w'∧Step P Γ Own σ S w R s e v w':=by
 have hexec : ∀ {v : Value} {w' : World},(Builtin.append_ #[t,t] o.type #[a.eval d,a.eval x]).run P w = .ok v w' → OpRuns P a o w v w':=by
  intro v w' hr;refine .inl ?_;simp only [execOp,ho,resolve,invoke,builtin,pure_bind,Sem.run_bind,List.map_toArray,List.map_cons,List.map_nil,hr,Result.andThen_ok,Sem.run_pure]
 have hroom : ∀ k : Nat,k≤roomMax → k * i.bytes≤140737488355328:=by
  intro k hk;have h1 : k * i.bytes≤34359738368 * 4096:=Nat.mul_le_mul hk hby;omega
 unfold evAppTab at h;split at h
 ·rename_i p n q m hgd hgx
  have hvd:=Yp hT hd hgd;have hvx:=Yp hT hx hgx;generalize hed : a.eval d = vd at hvd hexec;generalize hex : a.eval x = vx at hvx hexec;split at h
  ·rename_i sz1 es sz2 xs hrp hrq
   split at h
   ·rename_i hc
    obtain ⟨rfl,rfl,rfl,rfl,hpq,hle⟩:=hc;simp only [Option.some.injEq] at h; subst h
    have hle' : es.length + xs.length≤34359738368:=hle;have hbytes:=hroom _ hle;have hids : ∀ id ∈ [p,q],∃ r,R id = some r:=fun id hid => by
     simp only [List.mem_cons,List.not_mem_nil,or_false] at hid;rcases hid with rfl | rfl
     ·exact ⟨_,hrp⟩
     ·exact ⟨_,hrq⟩
    have gone2 : ([(s,some (Row.tab i.size (es ++ xs))),(p,none),(q,none)] : List (Nat × Option Row)) = (s,some (.tab i.size (es ++ xs))) :: gone [p,q]:=rfl;rw [gone2];have land : ∀ {w' : World} {l : Loc} {v : Value},Same w w' → (∀ b ∈ l.blocks,w.heap.size≤b ∨ ∃ id ∈ [p,q],Loc.has (σ id) b) →
      (∀ b,b < w.heap.size → (∀ id ∈ [p,q],¬ Loc.has (σ id) b) → w'.heap[b]? = w.heap[b]?) →
      RowOk P Γ (σ.set s l) S w' s (.tab i.size (es ++ xs)) → RelV (σ.set s l) S w' v (.tabS s (es.length + xs.length)) →
      Step P Γ Own σ S w R s ⟨.tabS s (es.length + xs.length),(s,some (.tab i.size (es ++ xs))) :: gone [p,q],[p,q]⟩ v w':=fun hS hl hw hrow hv => by
     obtain ⟨q1,q2⟩:=hR.gather (ids:=[p,q]) hF hids hl hw hS fun _=>hrow
     exact ⟨_,S,hv,q1,q2,set_outside⟩
    have hkp:=hR.ok p _ hrp;have hkq:=hR.ok q _ hrq;rcases hvx.tab_inv with ⟨hσq,hx0,adx,rfl⟩ | ⟨bq,szq,cq,innq,hσq,rfl⟩
    ·-- nothing behind
     have hxs : xs = []:=List.length_eq_zero_iff.1 hx0;subst hxs;rcases hvd.tab_inv with ⟨hσp,he0,adp,rfl⟩ | ⟨bp,szp,cp,innp,hσp,rfl⟩
     ·have hes : es = []:=List.length_eq_zero_iff.1 he0
      subst hes;refine ⟨_,_,hexec (run_append_zero (P:=P) (w:=w) (ty:=o.type) ht hi (base:=adp) (ad:=adx) (n:=0) (c:=0) (cap:=0) (Nat.le_refl _)),land (l:=.virt) (Same.refl w) (fun b hb => by cases hb) (fun _ _ _ => rfl) (.inl ⟨Ids.set_self ..,rfl⟩) (.tabV s adp (Ids.set_self ..))⟩
     ·rcases hkp with ⟨hk,_⟩ | ⟨l,hk,htab⟩
      ·rw [hk] at hσp; cases hσp
      ·rw [hk] at hσp
       simp only [Option.some.injEq] at hσp;subst hσp;have hcap : es.length≤cp:=by
        obtain ⟨b0,c0,inn0,cells,t',e1,g2,g3,g4,_⟩:=htab;simp only [Loc.tab.injEq] at e1;obtain ⟨_,_,_,rfl,_⟩:=e1;exact g4
       have hszp : szp = i.size:=by
        obtain ⟨b0,c0,inn0,cells,t',e1,_⟩:=htab;simp only [Loc.tab.injEq] at e1;exact e1.2.1
       subst hszp;refine ⟨_,_,hexec (run_append_zero (P:=P) (w:=w) (ty:=o.type) ht hi (base:=some ⟨bp,0,none⟩) (ad:=adx) (n:=es.length) (c:=cp) (cap:=0) hcap),land (l:=.tab bp i.size es.length cp innp) (Same.refl w) (fun b hb => .inr ⟨p,by simp,_,hk,hb⟩) (fun _ _ _ => rfl) (.inr ⟨_,Ids.set_self ..,by simpa using htab⟩) (by
        have:=RelV.tabS (σ:=σ.set s (.tab bp i.size es.length cp innp)) (S:=S) (w:=w) s bp i.size es.length cp innp (Ids.set_self ..);simpa using this)⟩
    ·rcases hkq with ⟨hk,_⟩ | ⟨l,hkq,htq⟩
     ·rw [hk] at hσq; cases hσq
     rw [hkq] at hσq;simp only [Option.some.injEq] at hσq;subst hσq;obtain ⟨b0,c0,inn0,csq,tq,e1,x2,x3,x4,x5,x6,x7,x8,x9,x10⟩:=htq;simp only [Loc.tab.injEq] at e1;obtain ⟨rfl,rfl,_,rfl,rfl⟩:=e1;obtain ⟨news,w1,w2,w3,w4⟩:=TabAt.news (w:=w) rfl x3 x4 x7 x8 x10 x2;simp only [Loc.blocks] at x9;rw [innB_filter] at x9;have hqin : ∀ b ∈ innq.flatMap innB,Loc.has (σ q) b:=fun b hb => ⟨_,hkq,by simp only [Loc.blocks]; rw [innB_filter]; exact List.mem_cons_of_mem _ hb⟩
     have hqlt : ∀ b ∈ innq.flatMap innB,b < w.heap.size:=fun b hb => hR.lt hrq (hqin b hb)
     have first : (∃ base,vd = .slice base 0 0∧es = []) ∨ ∃ bp cp innp,σ p = some (.tab bp i.size es.length cp innp)∧vd = .slice (some ⟨bp,0,none⟩) es.length cp∧TabAt w (.tab bp i.size es.length cp innp) i.size es:=by
      rcases hvd.tab_inv with ⟨hσp,he0,adp,rfl⟩ | ⟨bp,szp,cp,innp,hσp,rfl⟩
      ·exact .inl ⟨adp,rfl,List.length_eq_zero_iff.1 he0⟩
      ·rcases hkp with ⟨hk,_⟩ | ⟨l,hk,htab⟩
       ·rw [hk] at hσp; cases hσp
       ·rw [hk] at hσp
        simp only [Option.some.injEq] at hσp;subst hσp;have hszp : szp = i.size:=by
         obtain ⟨b0,c0,inn0,cells,t',e1,_⟩:=htab;simp only [Loc.tab.injEq] at e1;exact e1.2.1
        subst hszp;exact .inr ⟨bp,cp,innp,hk,rfl,htab⟩
     rcases first with ⟨base,rfl,rfl⟩ | ⟨bp,cp,innp,hkp',rfl,htp⟩
     ·-- a new block,of the second one's cells alone
      by_cases hx0 : xs.length = 0
      ·have hxs : xs = []:=List.length_eq_zero_iff.1 hx0
       subst hxs;exact ⟨_,_,hexec (run_append_zero (P:=P) (w:=w) (ty:=o.type) ht hi (base:=base) (ad:=some ⟨bq,0,none⟩) (n:=0) (c:=0) (cap:=cq) (Nat.le_refl _)),land (l:=.virt) (Same.refl w) (fun b hb => by cases hb) (fun _ _ _ => rfl) (.inl ⟨Ids.set_self ..,rfl⟩) (.tabV s base (Ids.set_self ..))⟩
      ·have hcapge:=grownCap_ge w xs.length 0 el
       have hcm : grownCap w xs.length 0 el≤maxLen:=grownCap_le_maxLen w _ 0 el (by simp only [List.length_nil,Nat.zero_add] at hle'; simp only [maxLen]; omega)
       simp only [List.length_nil,Nat.zero_add] at hbytes hle';have hrun : (Builtin.append_ #[t,t] o.type #[.slice base 0 0,.slice (some ⟨bq,0,none⟩) xs.length cq]).run P w =
         .ok (.slice (some ⟨w.heap.size,0,none⟩) xs.length (grownCap w xs.length 0 el)) (w.drew.alloc (.cells (news.toArray ++ Builtin.zeroCells z.cells (grownCap w xs.length 0 el - xs.length)) el)):=by
        cases base with
        | none => exact run_append_nil (P:=P) w t o.type el i z ht hi hz _ _ _ news w1 w2 (by omega) (by omega) (by omega)
        | some b0 =>
         have:=run_append_grow (P:=P) w t o.type el i z ht hi hz b0 0 0 [] (by simp) (by simp) ⟨bq,0,none⟩ xs.length cq news w1 w2 (by omega) (by omega) (growslice_fits (by omega) (by simpa using hbytes))
         simpa using this
       have hsize : (news.toArray ++ Builtin.zeroCells z.cells (grownCap w xs.length 0 el - xs.length)).size = grownCap w xs.length 0 el * i.size:=by
        rw [Array.size_append,zeroCells_eq,hzs];simp only [List.size_toArray,w1];rw [← Nat.add_mul]; congr 1; omega
       have hold : ∀ b,b < w.heap.size → (w.drew.alloc (.cells (news.toArray ++ Builtin.zeroCells z.cells (grownCap w xs.length 0 el - xs.length)) el)).heap[b]? = w.heap[b]?:=fun b hb => heap_alloc_old w.drew _ b hb
       have hnew:=heap_alloc_new w.drew (.cells (news.toArray ++ Builtin.zeroCells z.cells (grownCap w xs.length 0 el - xs.length)) el);have hsm : Same w (w.drew.alloc (.cells (news.toArray ++ Builtin.zeroCells z.cells (grownCap w xs.length 0 el - xs.length)) el)):=(Same.drew w).trans (Same.alloc ..);generalize hcs : (news.toArray ++ Builtin.zeroCells z.cells (grownCap w xs.length 0 el - xs.length)) = cs' at *;generalize w.drew.alloc (.cells cs' el) = w' at *;have hat : TabAt w' (.tab w.heap.size i.size ([] ++ xs).length (grownCap w xs.length 0 el) ([] ++ innq)) i.size ([] ++ xs):=appTab_at (olds:=[]) (news:=news) (t:=el) hnew (by omega) (by simpa using hcapge) hcm h0 (by simp) x7 (by simp) x8
        (by rw [List.nil_append]; exact List.nodup_cons.2 ⟨fun hb=>Nat.lt_irrefl _ (hqlt _ hb),(List.nodup_cons.1 x9).2⟩) (by simp) (fun j u hu => by
         rw [List.nil_append] at hu;have hj:=(List.getElem?_eq_some_iff.1 hu).1;rw [← hcs,Array.getElem?_append_left (by simpa using hj)]
         simpa using hu) (fun i x o hx => by simp [flat] at hx) (fun i x o hx hoi => by
         obtain ⟨v,hv,hc⟩:=w4 i x o hx hoi;exact ⟨v,hv,hc.keep2 hold⟩)
       simp only [List.nil_append] at hat;refine ⟨_,_,hexec hrun,land (l:=.tab w.heap.size i.size xs.length (grownCap w xs.length 0 el) innq) hsm (fun b hb => ?_) (fun b hb _ => hold b hb) (.inr ⟨_,Ids.set_self ..,hat⟩) ?_⟩
       ·simp only [Loc.blocks] at hb
        rw [innB_filter] at hb;rcases List.mem_cons.1 hb with rfl | hb
        ·exact .inl (Nat.le_refl _)
        ·exact .inr ⟨q,by simp,hqin b hb⟩
       ·have:=RelV.tabS (σ:=σ.set s (.tab w.heap.size i.size xs.length (grownCap w xs.length 0 el) innq)) (S:=S) (w:=w') s w.heap.size i.size xs.length (grownCap w xs.length 0 el) innq (Ids.set_self ..)
        simpa using this
     ·obtain ⟨b0,c0,inn0,csp,tp,e1,y2,y3,y4,y5,y6,y7,y8,y9,y10⟩:=htp
      simp only [Loc.tab.injEq] at e1;obtain ⟨rfl,_,_,rfl,rfl⟩:=e1;obtain ⟨olds,u1,u2,u3,u4⟩:=TabAt.news (w:=w) rfl y3 y4 y7 y8 y10 y2;simp only [Loc.blocks] at y9;rw [innB_filter] at y9;have hpb : Loc.has (σ p) bp:=⟨_,hkp',by simp [Loc.blocks]⟩
      have hpin : ∀ b ∈ innp.flatMap innB,Loc.has (σ p) b:=fun b hb => ⟨_,hkp',by simp only [Loc.blocks]; rw [innB_filter]; exact List.mem_cons_of_mem _ hb⟩
      have hplt : ∀ b ∈ innp.flatMap innB,b < w.heap.size:=fun b hb => hR.lt hrp (hpin b hb)
      have hdisj : ∀ b,Loc.has (σ p) b → Loc.has (σ q) b → False:=fun b h1 h2 => hpq (hR.inj p q _ _ b hrp hrq h1 h2)
      have hnd2 : ((innp ++ innq).flatMap innB).Nodup:=by
       rw [List.flatMap_append];exact List.nodup_append.2 ⟨(List.nodup_cons.1 y9).2,(List.nodup_cons.1 x9).2,fun b hb b' hb' e => by subst e; exact hdisj b (hpin b hb) (hqin b hb')⟩
      have hmem2 : ∀ b ∈ (innp ++ innq).flatMap innB,∃ id ∈ [p,q],Loc.has (σ id) b:=fun b hb => by
       rw [List.flatMap_append] at hb;rcases List.mem_append.1 hb with hb | hb
       ·exact ⟨p,by simp,hpin b hb⟩
       ·exact ⟨q,by simp,hqin b hb⟩
      by_cases hin : es.length + xs.length≤cp
      ·-- in its place
       by_cases hx0 : xs.length = 0
       ·have hxs : xs = []:=List.length_eq_zero_iff.1 hx0
        subst hxs;have hat : TabAt w (.tab bp i.size es.length cp innp) i.size es:=⟨bp,cp,innp,csp,tp,rfl,y2,y3,y4,y5,y6,y7,y8,by simp only [Loc.blocks]; rw [innB_filter]; exact y9,y10⟩
        refine ⟨_,_,hexec (run_append_zero (P:=P) (w:=w) (ty:=o.type) ht hi (base:=some ⟨bp,0,none⟩) (ad:=some ⟨bq,0,none⟩) (n:=es.length) (c:=cp) (cap:=cq) y4),land (l:=.tab bp i.size es.length cp innp) (Same.refl w) (fun b hb => .inr ⟨p,by simp,_,hkp',hb⟩) (fun _ _ _ => rfl) (.inr ⟨_,Ids.set_self ..,by simpa using hat⟩) (by
         have:=RelV.tabS (σ:=σ.set s (.tab bp i.size es.length cp innp)) (S:=S) (w:=w) s bp i.size es.length cp innp (Ids.set_self ..);simpa using this)⟩
       ·have hfit : es.length * i.size + news.length≤csp.size:=by
         refine Nat.le_trans ?_ y3;rw [w1,← Nat.add_mul]; exact Nat.mul_le_mul_right _ (by omega)
        have hrun:=run_append_in (P:=P) (w:=w) t o.type el tp i ht hi bp es.length cp csp y2 ⟨bq,0,none⟩ xs.length cq news w1 w2 w3 hin hfit;have hother : ∀ b,b ≠ bp → (w.setRow bp (csp.toList.take (es.length * i.size) ++ news ++ csp.toList.drop (es.length * i.size + news.length)).toArray).heap[b]? = w.heap[b]?:=fun b hb => setRow_other w bp b _ hb
        have hnew:=setRow_heap w bp csp (csp.toList.take (es.length * i.size) ++ news ++ csp.toList.drop (es.length * i.size + news.length)).toArray tp _ y2;have hsm : Same w (w.setRow bp (csp.toList.take (es.length * i.size) ++ news ++ csp.toList.drop (es.length * i.size + news.length)).toArray):=Same.setRow ..;generalize w.setRow bp (csp.toList.take (es.length * i.size) ++ news ++ csp.toList.drop (es.length * i.size + news.length)).toArray = w' at *;have keep : ∀ {v : Value} {y : AV} {o : Option (Nat × Nat)},TabCell w v y o → (∀ b ∈ innB o,b ≠ bp) → TabCell w' v y o:=fun {v y o} h hb => by
         rcases h with h | ⟨ys,q1,q2,q3 | ⟨b',c',cs',t',r1,r2,r3,r4⟩⟩
         ·exact .inl h
         ·exact .inr ⟨ys,q1,q2,.inl q3⟩
         ·refine .inr ⟨ys,q1,q2,.inr ⟨b',c',cs',t',r1,r2,?_,r4⟩⟩
          rw [hother b' (hb b' (by rw [r1]; simp [innB]))]
          exact r3
        have hpne : ∀ {j : Nat} {o : Option (Nat × Nat)},innp[j]? = some o → ∀ b ∈ innB o,b ≠ bp:=fun {j o} ho b hb => by
         rintro rfl;exact (List.nodup_cons.1 y9).1 (List.mem_flatMap.2 ⟨o,List.mem_of_getElem? ho,hb⟩)
        have hqne : ∀ {j : Nat} {o : Option (Nat × Nat)},innq[j]? = some o → ∀ b ∈ innB o,b ≠ bp:=fun {j o} ho b hb => by
         rintro rfl;exact hdisj _ hpb (hqin _ (List.mem_flatMap.2 ⟨o,List.mem_of_getElem? ho,hb⟩))
        have hat:=appTab_at (w':=w') (b:=bp) (c:=cp) (t:=tp) (olds:=olds) (news:=news) (i1:=innp) (i2:=innq) hnew (by simp; omega) hin y5 h0 y7 x7 y8 x8 (List.nodup_cons.2 ⟨fun hb=>by
         rw [List.flatMap_append] at hb;rcases List.mem_append.1 hb with hb | hb
         ·exact (List.nodup_cons.1 y9).1 hb
         ·exact hdisj _ hpb (hqin _ hb),hnd2⟩) u1 (fun j u hu => by
          simp only [List.getElem?_toArray];rw [getElem?_spliced _ _ _ _ (by simpa using hfit)]
          by_cases hj : j < es.length * i.size
          ·rw [if_pos hj]
           rw [List.getElem?_append_left (by omega)] at hu
           have:=u2 j u hu;rw [Addr.add_lit,cell_of_row w bp _ csp tp (0,0) y2,Nat.zero_add] at this;rw [Array.getElem?_toList]; exact this
          ·have hj2:=(List.getElem?_eq_some_iff.1 hu).1
           rw [List.length_append] at hj2;rw [List.getElem?_append_right (by omega),u1] at hu
           rw [if_neg hj,if_pos (by omega)]
           exact hu) (fun j y o hy hoj => by
          obtain ⟨v,hv,hc⟩:=u4 j y o hy hoj;exact ⟨v,hv,keep hc (hpne hoj)⟩) (fun j y o hy hoj => by
          obtain ⟨v,hv,hc⟩:=w4 j y o hy hoj;exact ⟨v,hv,keep hc (hqne hoj)⟩)
        refine ⟨_,_,hexec hrun,land (l:=.tab bp i.size (es ++ xs).length cp (innp ++ innq)) hsm (fun b hb => ?_) (fun b hb hn => hother b (by rintro rfl; exact hn p (by simp) hpb)) (.inr ⟨_,Ids.set_self ..,hat⟩) ?_⟩
        ·simp only [Loc.blocks] at hb
         rw [innB_filter] at hb;rcases List.mem_cons.1 hb with rfl | hb
         ·exact .inr ⟨p,by simp,hpb⟩
         ·exact .inr (hmem2 b hb)
        ·have:=RelV.tabS (σ:=σ.set s (.tab bp i.size (es ++ xs).length cp (innp ++ innq))) (S:=S) (w:=w') s bp i.size (es ++ xs).length cp (innp ++ innq) (Ids.set_self ..)
         simpa using this
      ·-- it grows
       have hcapge:=grownCap_ge w (es.length + xs.length) cp el;have hcm : grownCap w (es.length + xs.length) cp el≤maxLen:=grownCap_le_maxLen w _ cp el (by simp only [maxLen]; omega)
       have hrun:=run_append_grow (P:=P) w t o.type el i z ht hi hz ⟨bp,0,none⟩ es.length cp olds u1 u2 ⟨bq,0,none⟩ xs.length cq news w1 w2 (by omega) (by omega) (growslice_fits (by omega) hbytes)
       have hsize : (olds.toArray ++ news.toArray ++ Builtin.zeroCells z.cells (grownCap w (es.length + xs.length) cp el - (es.length + xs.length))).size = grownCap w (es.length + xs.length) cp el * i.size:=by
        rw [Array.size_append,Array.size_append,zeroCells_eq,hzs];simp only [List.size_toArray,w1,u1];rw [← Nat.add_mul,← Nat.add_mul]; congr 1; omega
       have hold : ∀ b,b < w.heap.size → (w.drew.alloc (.cells (olds.toArray ++ news.toArray ++ Builtin.zeroCells z.cells (grownCap w (es.length + xs.length) cp el - (es.length + xs.length))) el)).heap[b]? = w.heap[b]?:=fun b hb => heap_alloc_old w.drew _ b hb
       have hnew:=heap_alloc_new w.drew (.cells (olds.toArray ++ news.toArray ++ Builtin.zeroCells z.cells (grownCap w (es.length + xs.length) cp el - (es.length + xs.length))) el);have hsm : Same w (w.drew.alloc (.cells (olds.toArray ++ news.toArray ++ Builtin.zeroCells z.cells (grownCap w (es.length + xs.length) cp el - (es.length + xs.length))) el)):=(Same.drew w).trans (Same.alloc ..);generalize hcs : (olds.toArray ++ news.toArray ++ Builtin.zeroCells z.cells (grownCap w (es.length + xs.length) cp el - (es.length + xs.length))) = cs' at *;generalize w.drew.alloc (.cells cs' el) = w' at *;have hlt2 : ∀ b ∈ (innp ++ innq).flatMap innB,b < w.heap.size:=fun b hb => by
        rw [List.flatMap_append] at hb;rcases List.mem_append.1 hb with hb | hb
        ·exact hplt b hb
        ·exact hqlt b hb
       have hat:=appTab_at (w':=w') (b:=w.heap.size) (c:=grownCap w (es.length + xs.length) cp el) (t:=el) (olds:=olds) (news:=news) (i1:=innp) (i2:=innq) hnew (by omega) hcapge hcm h0 y7 x7 y8 x8
        (List.nodup_cons.2 ⟨fun hb=>Nat.lt_irrefl _ (hlt2 _ hb),hnd2⟩) u1 (fun j u hu => by
         have hj:=(List.getElem?_eq_some_iff.1 hu).1;rw [List.length_append] at hj;rw [← hcs,Array.getElem?_append_left (by simpa using hj)]
         simpa using hu) (fun j y o hy hoj => by
         obtain ⟨v,hv,hc⟩:=u4 j y o hy hoj;exact ⟨v,hv,hc.keep2 hold⟩) (fun j y o hy hoj => by
         obtain ⟨v,hv,hc⟩:=w4 j y o hy hoj;exact ⟨v,hv,hc.keep2 hold⟩)
       refine ⟨_,_,hexec hrun,land (l:=.tab w.heap.size i.size (es ++ xs).length (grownCap w (es.length + xs.length) cp el) (innp ++ innq)) hsm (fun b hb => ?_) (fun b hb _ => hold b hb) (.inr ⟨_,Ids.set_self ..,hat⟩) ?_⟩
       ·simp only [Loc.blocks] at hb
        rw [innB_filter] at hb;rcases List.mem_cons.1 hb with rfl | hb
        ·exact .inl (Nat.le_refl _)
        ·exact .inr (hmem2 b hb)
       ·have:=RelV.tabS (σ:=σ.set s (.tab w.heap.size i.size (es ++ xs).length (grownCap w (es.length + xs.length) cp el) (innp ++ innq))) (S:=S) (w:=w') s w.heap.size i.size (es ++ xs).length (grownCap w (es.length + xs.length) cp el) (innp ++ innq) (Ids.set_self ..)
        simpa using this
   ·cases h
  ·cases h
 ·cases h
theorem lk_rowsWr (k : Nat) (l : List (Nat × Row)) : lk k (rowsWr l) = (lk k l).map some:=by
 induction l with
 | nil => rfl
 | cons p l ih =>
  obtain ⟨j,r⟩:=p;simp only [rowsWr,List.map_cons,lk] at ih ⊢;split
  ·rfl
  ·exact ih
theorem backs_sound (hR : RowsOk P Γ Own σ S w R) {S2 : Nat → Prop} {w2 : World} : ∀ {out : List Nat} {outs : List AV} {lents : List Value} {bs : List Nat} {rs : List (Nat × Option Row)} {n n' : Nat},
  LiftL (ArgR P Γ S2 w2) lents outs bs → LentRows σ S w R lents out → backs R n out outs = some (rs,n') →
  ∃ τ : Ids,n≤n'∧(∀ id l,τ id = some l → n≤id∧id < n')∧∀ ρ : Ids,σ.le ρ → τ.le ρ →
   (∀ k r,lk k rs = some (some r) → RowOk P Γ ρ S2 w2 k r)∧(∀ k r b,lk k rs = some (some r) → Loc.has (ρ k) b → b ∈ bs) ∧
   (bs.Nodup → ∀ k k' r r' b,lk k rs = some (some r) → lk k' rs = some (some r') → Loc.has (ρ k) b → Loc.has (ρ k') b → k = k') ∧
   (∀ k r,lk k rs = some (some r) → k ∈ out ∨ (n≤k∧k < n'))∧(∀ k ∈ out,∃ r,lk k rs = some r)
 | [],outs,lents,bs,rs,n,n',hl,hr,h => by
  cases outs with
  | nil =>
   simp [backs] at h;obtain ⟨rfl,rfl⟩:=h;exact ⟨fun _=>none,Nat.le_refl _,by simp,fun ρ _ _ => ⟨by simp [lk],by simp [lk],by simp [lk],by simp [lk],by simp⟩⟩
  | cons x xs => simp [backs] at h
 | id :: ids,outs,lents,bs,rs,n,n',hl,hr,h => by
  cases outs with
  | nil => simp [backs] at h
  | cons x outs =>
   cases lents with
   | nil => exact hl.elim
   | cons v lents =>
    obtain ⟨b1,b2,h1,h2,rfl⟩:=hl;obtain ⟨hr1,hr2⟩:=hr;cases x with
    | bor cs =>
     simp only [backs] at h;split at h
     ·rename_i cs0 hrow
      split at h
      ·rename_i hlen
       split at h
       ·rename_i rs' n'' hb
        simp only [Option.some.injEq,Prod.mk.injEq] at h;obtain ⟨rfl,rfl⟩:=h;obtain ⟨b,cells,t,bs',rfl,rfl,hh,hs,hcl,hsc⟩:=h1;obtain ⟨τ1,i1,l1,s1,c1⟩:=box_imp (P:=P) (Γ:=Γ) hcl hsc n;obtain ⟨τ2,le2,dom2,ih⟩:=backs_sound hR h2 hr2 hb;have hdis : ∀ id l l',τ1 id = some l → τ2 id = some l' → False:=fun id l l' a b => by
         have:=i1.dom id l a;have:=dom2 id l' b;omega
        obtain ⟨b0,cells0,t0,hk,_⟩:=hR.ok id _ hrow;have hbb : σ id = some (.row b cs0.length 1 1):=by
         rcases hr1 with ⟨_,_,hv⟩ | ⟨sz,es,hrow',hv⟩ | ⟨m,hrow',hv⟩ | ⟨_,_,_,hrow',hv⟩
         ·obtain ⟨b'',sz'',n'',c'',hσ,hlt,heq⟩:=hv.ptr_inv
          have q:=hk.symm.trans hσ;simp only [Option.some.injEq,Loc.row.injEq] at q;obtain ⟨rfl,rfl,rfl,rfl⟩:=q;simp at heq;rw [hk,heq]
         ·rw [hrow] at hrow'; cases hrow'
         ·rw [hrow] at hrow'; cases hrow'
         ·rw [hrow] at hrow'; cases hrow'
        refine ⟨τ1.union τ2,Nat.le_trans i1.le le2,fun k l hk' => ?_,fun ρ hσρ hτρ => ?_⟩
        ·unfold Ids.union at hk'
         cases h1 : τ1 k with
         | some l' => have:=i1.dom k l' h1; omega
         | none => rw [h1] at hk'; have:=dom2 k l hk'; have:=i1.le; omega
        ·have hτ1 : τ1.le ρ:=fun k l h => hτρ k l (Ids.le_union_left _ _ k l h)
         have hτ2 : τ2.le ρ:=fun k l h => hτρ k l (Ids.le_union_right hdis k l h)
         obtain ⟨ok2,blk2,inj2,key2,out2⟩:=ih ρ hσρ hτ2;have hρid:=hσρ _ _ hbb;have hparts : ∀ k r,lk k ((id,some (Row.box (imL imCell n cs).1)) :: (rowsWr (imL imCell n cs).2.1 ++ rs')) = some (some r) →
           (k = id∧r = .box (imL imCell n cs).1) ∨ (k ≠ id∧lk k (imL imCell n cs).2.1 = some r) ∨ (k ≠ id∧lk k rs' = some (some r)):=by
          intro k r hkr;simp only [lk] at hkr;split at hkr
          ·rename_i e; subst e; simp at hkr; exact .inl ⟨rfl,hkr.symm⟩
          ·rename_i e
           rw [lk_append,lk_rowsWr] at hkr;cases hq : lk k (imL imCell n cs).2.1 with
           | some r' => rw [hq] at hkr; simp at hkr; subst hkr; exact .inr (.inl ⟨Ne.symm e,rfl⟩)
           | none => rw [hq] at hkr; exact .inr (.inr ⟨Ne.symm e,by simpa using hkr⟩)
         have hasId : ∀ b',Loc.has (ρ id) b' → b' = b:=by
          exact fun b' hb' => row_has hρid hb'
         have hasImp : ∀ k r b',lk k (imL imCell n cs).2.1 = some r → Loc.has (ρ k) b' → Loc.has (τ1 k) b':=by
          intro k r b' hkr hb';obtain ⟨l,hl⟩:=(i1.ok k r hkr).some;exact has_le hτ1 hl hb'
         refine ⟨fun k r hkr => ?_,fun k r b' hkr hb' => ?_,fun hnd k k' r r' b' hkr hkr' hb' hb'' => ?_,fun k r hkr => ?_,fun k hk' => ?_⟩
         ·rcases hparts k r hkr with ⟨rfl,rfl⟩ | ⟨_,hq⟩ | ⟨_,hq⟩
          ·refine ⟨b,cells,t,by rw [hρid,← l1,hs,hlen],hh,l1,s1,fun i x hx => ?_⟩
           obtain ⟨v,q1,q2⟩:=c1 i x hx;exact ⟨v,q1,q2.mono hτ1 (fun _ h => h) fun _ _ => rfl⟩
          ·exact (i1.ok k r hq).ids hτ1
          ·exact ok2 k r hq
         ·rcases hparts k r hkr with ⟨rfl,rfl⟩ | ⟨_,hq⟩ | ⟨_,hq⟩
          ·rw [hasId b' hb']; simp
          ·exact List.mem_append_left _ (List.mem_cons_of_mem _ (i1.blk k b' (hasImp k r b' hq hb')))
          ·exact List.mem_append_right _ (blk2 k r b' hq hb')
         ·obtain ⟨nd1,nd2,nd3⟩:=List.nodup_append.1 hnd
          obtain ⟨nd4,nd5⟩:=List.nodup_cons.1 nd1;rcases hparts k r hkr with ⟨rfl,rfl⟩ | ⟨_,hq⟩ | ⟨_,hq⟩ <;> rcases hparts k' r' hkr' with ⟨rfl,rfl⟩ | ⟨_,hq'⟩ | ⟨_,hq'⟩
          ·rfl
          ·have e:=hasId b' hb'
           subst e;exact absurd (i1.blk k' b' (hasImp k' r' b' hq' hb'')) nd4
          ·have e:=hasId b' hb'
           subst e;exact absurd rfl (nd3 b' (by simp) b' (blk2 k' r' b' hq' hb''))
          ·have e:=hasId b' hb''
           subst e;exact absurd (i1.blk k b' (hasImp k r b' hq hb')) nd4
          ·exact i1.inj nd5 k k' b' (hasImp k r b' hq hb') (hasImp k' r' b' hq' hb'')
          ·exact absurd rfl (nd3 b' (List.mem_cons_of_mem _ (i1.blk k b' (hasImp k r b' hq hb'))) b' (blk2 k' r' b' hq' hb''))
          ·have e:=hasId b' hb''
           subst e;exact absurd rfl (nd3 b' (by simp) b' (blk2 k r b' hq hb'))
          ·exact absurd rfl (nd3 b' (List.mem_cons_of_mem _ (i1.blk k' b' (hasImp k' r' b' hq' hb''))) b' (blk2 k r b' hq hb'))
          ·exact inj2 nd2 k k' r r' b' hq hq' hb' hb''
         ·rcases hparts k r hkr with ⟨rfl,rfl⟩ | ⟨_,hq⟩ | ⟨_,hq⟩
          ·exact .inl (by simp)
          ·obtain ⟨l,hl⟩:=(i1.ok k r hq).some
           have:=i1.dom k l hl;exact .inr ⟨this.1,by omega⟩
          ·rcases key2 k r hq with hk2 | hk2
           ·exact .inl (List.mem_cons_of_mem _ hk2)
           ·have:=i1.le; exact .inr ⟨by omega,hk2.2⟩
         ·simp only [lk]
          by_cases e : id = k
          ·exact ⟨_,if_pos e⟩
          ·rw [if_neg e,lk_append]
           rcases List.mem_cons.1 hk' with rfl | hk'
           ·exact absurd rfl e
           ·obtain ⟨r,hr⟩:=out2 k hk'
            cases hq : lk k (rowsWr (imL imCell n cs).2.1) with
            | some r' => exact ⟨r',rfl⟩
            | none => exact ⟨r,by simpa using hr⟩
       ·cases h
      ·cases h
     ·cases h
    | borS sz es =>
     simp only [backs] at h;split at h
     ·rename_i sz0 es0 hrow
      split at h
      ·rename_i hc
       obtain ⟨rfl,hlen⟩:=hc;split at h
       ·rename_i rs' n'' hb
        simp only [Option.some.injEq,Prod.mk.injEq] at h;obtain ⟨rfl,rfl⟩:=h;obtain ⟨τ2,le2,dom2,ih⟩:=backs_sound hR h2 hr2 hb;have hrowok : es.length ≠ 0 → ∃ b cap cs t,b1 = [b]∧σ id = some (.row b sz0 es.length cap)∧w2.heap[b]? = some (.cells cs t (0,0))∧cap * sz0≤cs.size∧es.length≤cap∧cap≤maxLen∧0 < sz0∧(∀ e ∈ es,Elem sz0 e) ∧
          ∀ (i : Nat) x,(flat es)[i]? = some x → ∃ u,cs[i]? = some u∧RelI S2 w2 u x:=by
         intro hne;rcases hr1 with ⟨cs,hrow',hv⟩ | ⟨sz',es',hrow',hv⟩ | ⟨m,hrow',hv⟩ | ⟨_,_,_,hrow',hv⟩
         rotate_left 2
         ·rw [hrow] at hrow'; cases hrow'
         ·rw [hrow] at hrow'; cases hrow'
         ·rw [hrow] at hrow'; cases hrow'
         ·rw [hrow] at hrow'; cases hrow'
          rcases h1 with ⟨a,rfl,rfl⟩ | ⟨b,cap,cs,t,hveq,rfl,g3,g4,g5,g6,g7,g8,g10,g11⟩
          ·exact absurd rfl hne
          ·rcases hv.slice_inv with ⟨_,_,hl0,_⟩ | ⟨b'',sz'',n'',c'',cap',a,hσ,q1,q2,q3,q4,heq⟩
           ·omega
           ·rw [hveq] at heq
            simp only [Value.slice.injEq,Option.some.injEq] at heq;obtain ⟨e1,e2,e3⟩:=heq;subst e3;have ha:=q4 (by omega)
            rw [← e1] at ha;simp at ha;subst ha;rw [Nat.zero_add] at q3;subst q3;rcases hR.ok id _ hrow with ⟨hk,_⟩ | ⟨b',c',cur,te,hk,_⟩
            ·rw [hk] at hσ; cases hσ
            ·have q:=hk.symm.trans hσ
             simp only [Option.some.injEq,Loc.row.injEq] at q;obtain ⟨rfl,rfl,rfl,rfl⟩:=q;exact ⟨b',c',cs,t,rfl,by rw [hk,hlen],g3,g4,by omega,g7,g8,g10,g11⟩
        refine ⟨τ2,le2,dom2,fun ρ hσρ hτρ => ?_⟩
        obtain ⟨ok2,blk2,inj2,key2,out2⟩:=ih ρ hσρ hτρ;have hparts : ∀ k r,lk k ((id,if es.length = 0 then none else some (Row.arr sz0 es)) :: rs') = some (some r) →
          (k = id∧es.length ≠ 0∧r = .arr sz0 es) ∨ (k ≠ id∧lk k rs' = some (some r)):=by
         intro k r hkr;simp only [lk] at hkr;split at hkr
         ·rename_i e
          subst e;split at hkr
          ·simp at hkr
          ·rename_i hne
           simp at hkr;exact .inl ⟨rfl,hne,hkr.symm⟩
         ·rename_i e; exact .inr ⟨Ne.symm e,hkr⟩
        refine ⟨fun k r hkr => ?_,fun k r b' hkr hb' => ?_,fun hnd k k' r r' b' hkr hkr' hb' hb'' => ?_,fun k r hkr => ?_,fun k hk' => ?_⟩
        ·rcases hparts k r hkr with ⟨rfl,hne,rfl⟩ | ⟨_,hq⟩
         ·obtain ⟨b,cap,cs,t,rfl,hσ,p1,p2,p3,p4,p5,p6,p7⟩:=hrowok hne
          exact .inr ⟨b,cap,cs,t,hσρ _ _ hσ,p1,p2,p3,p4,p5,p6,p7⟩
         ·exact ok2 k r hq
        ·rcases hparts k r hkr with ⟨rfl,hne,rfl⟩ | ⟨_,hq⟩
         ·obtain ⟨b,cap,cs,t,rfl,hσ,_⟩:=hrowok hne
          obtain rfl:=row_has hσ (has_le hσρ hσ hb');simp
         ·exact List.mem_append_right _ (blk2 k r b' hq hb')
        ·obtain ⟨nd1,nd2,nd3⟩:=List.nodup_append.1 hnd
         rcases hparts k r hkr with ⟨rfl,hne,rfl⟩ | ⟨_,hq⟩ <;> rcases hparts k' r' hkr' with ⟨rfl,hne',rfl⟩ | ⟨_,hq'⟩
         ·rfl
         ·obtain ⟨b,cap,cs,t,rfl,hσ,_⟩:=hrowok hne
          obtain rfl:=row_has hσ (has_le hσρ hσ hb');exact absurd rfl (nd3 b' (by simp) b' (blk2 k' r' b' hq' hb''))
         ·obtain ⟨b,cap,cs,t,rfl,hσ,_⟩:=hrowok hne'
          obtain rfl:=row_has hσ (has_le hσρ hσ hb'');exact absurd rfl (nd3 b' (by simp) b' (blk2 k r b' hq hb'))
         ·exact inj2 nd2 k k' r r' b' hq hq' hb' hb''
        ·rcases hparts k r hkr with ⟨rfl,hne,rfl⟩ | ⟨_,hq⟩
         ·exact .inl (by simp)
         ·rcases key2 k r hq with hk2 | hk2
          ·exact .inl (List.mem_cons_of_mem _ hk2)
          ·exact .inr hk2
        ·simp only [lk]
         by_cases e : id = k
         ·exact ⟨_,if_pos e⟩
         ·rw [if_neg e]
          rcases List.mem_cons.1 hk' with rfl | hk'
          ·exact absurd rfl e
          ·exact out2 k hk'
       ·cases h
      ·cases h
     ·cases h
    | borM ks keys vals =>
     simp only [backs] at h;split at h
     ·rename_i m0 hrow
      split at h
      ·rename_i rs' n'' hb
       simp only [Option.some.injEq,Prod.mk.injEq] at h;obtain ⟨rfl,rfl⟩:=h;obtain ⟨τ2,le2,dom2,ih⟩:=backs_sound hR h2 hr2 hb;obtain ⟨r0,es,clock,hveq,rfl,hh,he⟩:=h1;have hσ : σ id = some (.map r0):=by
        rcases hr1 with ⟨cs,hrow',hv⟩ | ⟨sz',es',hrow',hv⟩ | ⟨m,hrow',hv⟩ | ⟨_,_,_,hrow',hv⟩
        ·rw [hrow'] at hrow; cases hrow
        ·rw [hrow'] at hrow; cases hrow
        ·rw [hrow'] at hrow; cases hrow
        ·rw [hveq] at hv
         cases hv with
         | imm h => cases h
         | mapp _ _ h => exact h
       refine ⟨τ2,le2,dom2,fun ρ hσρ hτρ => ?_⟩
       obtain ⟨ok2,blk2,inj2,key2,out2⟩:=ih ρ hσρ hτρ;have hρid:=hσρ _ _ hσ;have hparts : ∀ k r,lk k ((id,some (mapRow ks keys vals)) :: rs') = some (some r) →
         (k = id∧r = mapRow ks keys vals) ∨ (k ≠ id∧lk k rs' = some (some r)):=by
        intro k r hkr;simp only [lk] at hkr;split at hkr
        ·rename_i e
         subst e;simp at hkr;exact .inl ⟨rfl,hkr.symm⟩
        ·rename_i e; exact .inr ⟨Ne.symm e,hkr⟩
       refine ⟨fun k r hkr => ?_,fun k r b' hkr hb' => ?_,fun hnd k k' r r' b' hkr hkr' hb' hb'' => ?_,fun k r hkr => ?_,fun k hk' => ?_⟩
       ·rcases hparts k r hkr with ⟨rfl,rfl⟩ | ⟨_,hq⟩
        ·exact mapRow_ok hρid hh he
        ·exact ok2 k r hq
       ·rcases hparts k r hkr with ⟨rfl,rfl⟩ | ⟨_,hq⟩
        ·obtain rfl:=map_has hρid hb'
         simp
        ·exact List.mem_append_right _ (blk2 k r b' hq hb')
       ·obtain ⟨nd1,nd2,nd3⟩:=List.nodup_append.1 hnd
        rcases hparts k r hkr with ⟨rfl,rfl⟩ | ⟨_,hq⟩ <;> rcases hparts k' r' hkr' with ⟨rfl,rfl⟩ | ⟨_,hq'⟩
        ·rfl
        ·obtain rfl:=map_has hρid hb'
         exact absurd rfl (nd3 b' (by simp) b' (blk2 k' r' b' hq' hb''))
        ·obtain rfl:=map_has hρid hb''
         exact absurd rfl (nd3 b' (by simp) b' (blk2 k r b' hq hb'))
        ·exact inj2 nd2 k k' r r' b' hq hq' hb' hb''
       ·rcases hparts k r hkr with ⟨rfl,rfl⟩ | ⟨_,hq⟩
        ·exact .inl (by simp)
        ·rcases key2 k r hq with hk2 | hk2
         ·exact .inl (List.mem_cons_of_mem _ hk2)
         ·exact .inr hk2
       ·simp only [lk]
        by_cases e : id = k
        ·exact ⟨_,if_pos e⟩
        ·rw [if_neg e]
         rcases List.mem_cons.1 hk' with rfl | hk'
         ·exact absurd rfl e
         ·exact out2 k hk'
      ·cases h
     ·cases h
    | ylog k xs =>
     simp only [backs] at h;split at h
     ·rename_i m hrow
      split at h
      ·rename_i rs' n'' hb
       simp only [Option.some.injEq,Prod.mk.injEq] at h;obtain ⟨rfl,rfl⟩:=h;obtain ⟨l,hveq,hg,hn,hlt,hk,hgam⟩:=h1;obtain ⟨τ2,le2,dom2,ih⟩:=backs_sound hR h2 hr2 hb;have htag : σ id = some (.tag l):=by
        rcases hr1 with ⟨cs,hrow',hv⟩ | ⟨sz',es',hrow',hv⟩ | ⟨m',hrow',hv⟩ | ⟨_,_,_,hrow',hv⟩
        rotate_left 3
        ·rw [hrow] at hrow'; cases hrow'
        ·rw [hrow] at hrow'; cases hrow'
        ·rw [hrow] at hrow'; cases hrow'
        ·rw [hveq] at hv
         cases hv with
         | imm h => cases h
         | yieldV _ _ h => exact h
       have hdis : ∀ id l' l'',(Ids.set (fun _=>none) n (.gen l b1)) id = some l' → τ2 id = some l'' → False:=fun id l' l'' a b => by
        unfold Ids.set at a;split at a
        ·have:=dom2 id l'' b; omega
        ·cases a
       refine ⟨(Ids.set (fun _=>none) n (.gen l b1)).union τ2,by omega,fun k' l' hk' => ?_,fun ρ hσρ hτρ => ?_⟩
       ·unfold Ids.union Ids.set at hk'
        by_cases e : k' = n
        ·subst e; omega
        ·simp [e] at hk'
         have:=dom2 k' l' hk'; omega
       ·have hτ1 : (Ids.set (fun _=>none) n (.gen l b1)).le ρ:=fun k l h => hτρ k l (Ids.le_union_left _ _ k l h)
        have hτ2 : τ2.le ρ:=fun k l h => hτρ k l (Ids.le_union_right hdis k l h)
        obtain ⟨ok2,blk2,inj2,key2,out2⟩:=ih ρ hσρ hτ2;have hρid:=hσρ _ _ htag;have hρn:=hτ1 n (.gen l b1) (Ids.set_self ..);have hparts : ∀ k' r,lk k' ((id,some (Row.num n)) :: (n,some (Row.log k xs)) :: rs') = some (some r) →
          (k' = id∧r = .num n) ∨ (k' = n∧r = .log k xs) ∨ (lk k' rs' = some (some r)):=by
         intro k' r hkr;simp only [lk] at hkr;split at hkr
         ·rename_i e; subst e; simp at hkr; exact .inl ⟨rfl,hkr.symm⟩
         ·split at hkr
          ·rename_i e; subst e; simp at hkr; exact .inr (.inl ⟨rfl,hkr.symm⟩)
          ·exact .inr (.inr hkr)
        have noId : ∀ b',¬ Loc.has (ρ id) b':=by
         rintro b' ⟨l',hl',hb'⟩;rw [hρid] at hl'; cases hl'; cases hb'
        have hasN : ∀ b',Loc.has (ρ n) b' → b' ∈ b1:=by
         rintro b' ⟨l',hl',hb'⟩;rw [hρn] at hl'; cases hl'; exact hb'
        refine ⟨fun k' r hkr => ?_,fun k' r b' hkr hb' => ?_,fun hnd k' k'' r r' b' hkr hkr' hb' hb'' => ?_,fun k' r hkr => ?_,fun k' hk' => ?_⟩
        ·rcases hparts k' r hkr with ⟨rfl,rfl⟩ | ⟨rfl,rfl⟩ | hq
         ·exact ⟨l,b1,hρid,hρn⟩
         ·exact ⟨l,b1,hρn,hg,hn,hlt,hk,hgam⟩
         ·exact ok2 k' r hq
        ·rcases hparts k' r hkr with ⟨rfl,rfl⟩ | ⟨rfl,rfl⟩ | hq
         ·exact absurd hb' (noId b')
         ·exact List.mem_append_left _ (hasN b' hb')
         ·exact List.mem_append_right _ (blk2 k' r b' hq hb')
        ·obtain ⟨nd1,nd2,nd3⟩:=List.nodup_append.1 hnd
         rcases hparts k' r hkr with ⟨rfl,rfl⟩ | ⟨rfl,rfl⟩ | hq <;> rcases hparts k'' r' hkr' with ⟨rfl,rfl⟩ | ⟨rfl,rfl⟩ | hq'
         all_goals first
          | rfl
          | exact absurd hb' (noId b')
          | exact absurd hb'' (noId b')
          | exact absurd rfl (nd3 b' (hasN b' hb') b' (blk2 _ r' b' hq' hb''))
          | exact absurd rfl (nd3 b' (hasN b' hb'') b' (blk2 _ r b' hq hb'))
          | exact inj2 nd2 k' k'' r r' b' hq hq' hb' hb''
        ·rcases hparts k' r hkr with ⟨rfl,rfl⟩ | ⟨rfl,rfl⟩ | hq
         ·exact .inl (by simp)
         ·exact .inr ⟨Nat.le_refl _,by omega⟩
         ·rcases key2 k' r hq with hk2 | hk2
          ·exact .inl (List.mem_cons_of_mem _ hk2)
          ·exact .inr ⟨by omega,hk2.2⟩
        ·simp only [lk]
         by_cases e : id = k'
         ·exact ⟨_,if_pos e⟩
         ·rw [if_neg e]
          by_cases e' : n = k'
          ·exact ⟨_,if_pos e'⟩
          ·rw [if_neg e']
           rcases List.mem_cons.1 hk' with rfl | hk'
           ·exact absurd rfl e
           ·exact out2 k' hk'
      ·cases h
     ·cases h
    | _ => simp [backs] at h
end
end Go.Abs
namespace Go.Abs
section
variable {P : Program} {Γ : Gam} {Own : Nat → Prop} {σ : Ids} {S S' : Nat → Prop} {w : World} {R : Nat → Option Row} {s : Nat} {T : Nat → Option AV} {a : Act} {o : Oper} {e : Eff}
theorem RelI.plain1 {u : Value} {x : AV} (hx : x.plain1 = true) (h : RelI S w u x) : RelI S' w u x:=by
 cases h <;> simp [AV.plain1] at hx
 ·exact .int _ _
 ·exact .bool _
theorem plain_cells {x : AV} (h : x.plain = true) : ∀ c ∈ x.cells,c.plain1 = true:=by
 unfold AV.plain at h;unfold AV.cells;split at h
 ·simpa using h
 ·simpa using h
theorem OwnS.fresh {v : Value} {sz : Nat} {es : List AV} {bs : List Nat} (hp : es.all AV.plain = true) (h : OwnS S w v sz es bs) : OwnS S' w v sz es bs:=by
 rcases h with h | ⟨b,cap,cs,t,h1,h2,h3,h4,h5,h6,h7,h8,h10,h11⟩
 ·exact .inl h
 ·refine .inr ⟨b,cap,cs,t,h1,h2,h3,h4,h5,h6,h7,h8,h10,fun i x hx => ?_⟩
  obtain ⟨u,q1,q2⟩:=h11 i x hx;refine ⟨u,q1,q2.plain1 ?_⟩;have hm:=List.mem_of_getElem? hx;unfold flat at hm;obtain ⟨y,hy,hyc⟩:=List.mem_flatMap.1 hm;exact plain_cells (List.all_eq_true.1 hp y hy) x hyc
theorem OwnC.fresh {v : Value} {x : AV} {bs : List Nat} (hp : x.fresh1 = true) (h : OwnC S w v x bs) : OwnC S' w v x bs:=by
 unfold OwnC at *;unfold AV.fresh1 at hp;split at h
 ·exact OwnS.fresh hp h
 ·exact h
 ·exact h
 ·rename_i hne hnm hnt
  split at hp
  ·rename_i sz es; exact absurd rfl (hne sz es)
  ·rename_i ks keys vals; exact absurd rfl (hnm ks keys vals)
  ·rename_i sz es; exact absurd rfl (hnt sz es)
  ·exact ⟨h.1,h.2.plain1 hp⟩
theorem LiftL.imp {Rel Rel' : Value → AV → List Nat → Prop} {p : AV → Bool} (hr : ∀ v a bs,p a = true → Rel v a bs → Rel' v a bs) : ∀ {vs : List Value} {as : List AV} {bs : List Nat},as.all p = true → LiftL Rel vs as bs → LiftL Rel' vs as bs
 | [],[],_,_,h => h
 | _ :: _,_ :: _,_,hp,h => by
  simp only [List.all_cons,Bool.and_eq_true] at hp;obtain ⟨b1,b2,h1,h2,h3⟩:=h;exact ⟨b1,b2,hr _ _ _ hp.1 h1,h2.imp hr hp.2,h3⟩
 | [],_ :: _,_,_,h => h.elim
 | _ :: _,[],_,_,h => h.elim
theorem OwnI.fresh {v : Value} {x : AV} {bs : List Nat} (hp : x.fresh2 = true) (h : OwnI S w v x bs) : OwnI S' w v x bs:=by
 unfold OwnI at *;unfold AV.fresh2 at hp;split at h
 ·obtain ⟨vs,h1,h2⟩:=h
  exact ⟨vs,h1,h2.imp (fun _ _ _ => OwnC.fresh) hp⟩
 ·rename_i hne
  split at hp
  ·rename_i cs; exact absurd rfl (hne cs)
  ·exact h.fresh hp
theorem OwnR.fresh {v : Value} {x : AV} {bs : List Nat} (hp : x.fresh = true) (h : OwnR S w v x bs) : OwnR S' w v x bs:=by
 unfold OwnR at *;unfold AV.fresh at hp;split at h
 ·obtain ⟨vs,h1,h2⟩:=h
  exact ⟨vs,h1,h2.imp (fun _ _ _ => OwnI.fresh) hp⟩
 ·rename_i hne
  split at hp
  ·rename_i cs; exact absurd rfl (hne cs)
  ·exact h.fresh hp
theorem ArgR.fresh {v : Value} {x : AV} {bs : List Nat} (hp : x.freshOut = true) (h : ArgR P Γ S w v x bs) : ArgR P Γ S' w v x bs:=by
 unfold ArgR at *;unfold AV.freshOut at hp;split at h
 ·obtain ⟨b,cells,t,bs',h1,h2,h3,h4,h5,h6⟩:=h
  exact ⟨b,cells,t,bs',h1,h2,h3,h4,h5.imp (fun _ _ _ => OwnC.fresh) hp,h6⟩
 ·exact OwnS.fresh hp h
 ·cases hp
 ·exact h
 ·cases hp
 ·rename_i h1 h2 h3 h5 h4
  split at hp
  ·exact absurd rfl (h1 _)
  ·exact absurd rfl (h2 _ _)
  ·exact absurd rfl (h5 _ _ _)
  ·cases hp
theorem updR_eq (wr : List (Nat × Option Row)) (R : Nat → Option Row) (k : Nat) : updR wr R k = match lk k wr with
  | some r => r
  | none => R k:=by
 induction wr with
 | nil => rfl
 | cons p wr ih =>
  obtain ⟨i,r⟩:=p;simp only [updR,lk];split
  ·rfl
  ·exact ih
theorem lk_gone (k : Nat) (ids : List Nat) : lk k (gone ids) = if k ∈ ids then some none else none:=by
 induction ids with
 | nil => rfl
 | cons i ids ih =>
  simp only [gone,List.map_cons,lk] at ih ⊢;by_cases h : i = k
  ·simp [h]
  ·simp only [h,if_false,ih,List.mem_cons,Ne.symm h,false_or]
theorem OwnS.still {v : Value} {sz : Nat} {es : List AV} {bs : List Nat} (h : OwnS S w v sz es bs) : RelI (fun b=>S b ∨ b ∈ bs) w v (.list sz es):=by
 rcases h with ⟨a,rfl,rfl⟩ | ⟨b,cap,cs,t,rfl,rfl,h3,h4,h5,h6,h7,h8,h10,h11⟩
 ·exact .list0 a 0 sz
 ·have hsz : es.length * sz≤cs.size:=Nat.le_trans (Nat.mul_le_mul_right sz h5) h4
  refine .list b 0 sz cap es (fun i=>cs.getD i (.int .i64 0)) (.inr (List.mem_singleton.2 rfl)) h5 h10 (fun i hi => ?_) fun i c hc => ?_
  ·have hi' : i < cs.size:=by omega
   simp [World.cell?,h3,Array.getD,hi']
  ·obtain ⟨u,q1,q2⟩:=h11 i c hc
   have e : cs.getD i (.int .i64 0) = u:=by rw [Array.getD_eq_getD_getElem?,q1]; rfl
   show RelI _ w (cs.getD i (.int .i64 0)) c
   rw [e];exact q2.mono (fun _ h => .inl h) fun _ _ => rfl
theorem OwnC.still {v : Value} {a : AV} {bs : List Nat} (h : OwnC S w v a bs) : OwnC (fun b=>S b ∨ b ∈ bs) w v a.still1 []:=by
 cases a;case own sz es => exact ⟨rfl,OwnS.still h⟩
 case ownM ks keys vals => exact ⟨rfl,.any v⟩
 case ownT sz es =>
  refine ⟨rfl,?_⟩;rcases h with ⟨ad,rfl,rfl⟩ | ⟨b,c,inn,ht,rfl,rfl⟩
  ·exact .list0 _ _ _
  ·obtain ⟨b1,c1,inn1,e1,hrel⟩:=ht.list (S:=fun b' => S b' ∨ b' ∈ (Loc.tab b sz es.length c inn).blocks) fun b' hb => .inr hb
   simp only [Loc.tab.injEq] at e1;obtain ⟨rfl,_,_,rfl,rfl⟩:=e1;exact hrel
 all_goals exact ⟨rfl,h.2.mono (fun _ h => .inl h) fun _ _ => rfl⟩
theorem LiftL.still {Rel : (Nat → Prop) → Value → AV → List Nat → Prop} {g : AV → AV} (hm : ∀ (S S' : Nat → Prop) v a bs,(∀ b,S b → S' b) → Rel S v a bs → Rel S' v a bs) (hr : ∀ (S : Nat → Prop) v a bs,Rel S v a bs → Rel (fun b=>S b ∨ b ∈ bs) v (g a) []) :
  ∀ {vs : List Value} {as : List AV} {bs : List Nat},LiftL (Rel S) vs as bs → LiftL (Rel fun b=>S b ∨ b ∈ bs) vs (as.map g) []
 | [],[],_,_ => rfl
 | v :: vs,a :: as,bs,h => by
  obtain ⟨b1,b2,h1,h2,rfl⟩:=h;refine ⟨[],[],hm _ _ _ _ _ (fun b hb => ?_) (hr _ _ _ _ h1),(LiftL.still hm hr h2).mono fun _ _ _ => hm _ _ _ _ _ fun b hb => ?_,rfl⟩
  ·exact hb.imp id fun h=>List.mem_append_left _ h
  ·exact hb.imp id fun h=>List.mem_append_right _ h
 | [],_ :: _,_,h => h.elim
 | _ :: _,[],_,h => h.elim
theorem OwnI.still {v : Value} {a : AV} {bs : List Nat} (h : OwnI S w v a bs) : OwnI (fun b=>S b ∨ b ∈ bs) w v a.still2 []:=by
 have key : OwnC S w v a bs → OwnC (fun b=>S b ∨ b ∈ bs) w v a.still1 []:=OwnC.still
 cases a;case agg cs =>
  obtain ⟨vs,h1,h2⟩:=h;exact ⟨vs,h1,LiftL.still (Rel:=fun S=>OwnC S w) (fun _ _ _ _ _ hS => OwnC.mono hS) (fun _ _ _ _ => OwnC.still) h2⟩
 all_goals exact key h
theorem OwnR.still {v : Value} {a : AV} {bs : List Nat} (h : OwnR S w v a bs) : OwnR (fun b=>S b ∨ b ∈ bs) w v a.still []:=by
 have key : OwnI S w v a bs → OwnI (fun b=>S b ∨ b ∈ bs) w v a.still2 []:=OwnI.still
 cases a;case tuple as =>
  obtain ⟨vs,h1,h2⟩:=h;exact ⟨vs,h1,LiftL.still (Rel:=fun S=>OwnI S w) (fun _ _ _ _ _ hS => OwnI.mono hS) (fun _ _ _ _ => OwnI.still) h2⟩
 all_goals exact key h
theorem CallPost.still {bs : List Nat} {lent : List Value} {res : AV} {outs : List AV} {e : Ending} {w' : World} (h : CallPost P Γ S w bs lent res outs e w') : CallPost P Γ S w bs lent res.still outs e w':=by
 obtain ⟨v,S',bs1,bs2,he,p1,p2,p3,p4,p5,p6,p7,p8⟩:=h;obtain ⟨nd1,nd2,nd3⟩:=List.nodup_append.1 p3;refine ⟨v,fun b=>S' b ∨ b ∈ bs1,[],bs2,he,p1.still,p2.mono fun _ _ _ => ArgR.mono fun _ h => .inl h,by simpa using nd2,fun b hb => ?_,fun b hb => .inl (p5 b hb),fun b hb => ?_,p7,p8⟩
 ·have hb2 : b ∈ bs2:=by simpa using hb
  have h4:=p4 b (List.mem_append_right _ hb2);exact ⟨fun h=>h.elim h4.1 fun h=>nd3 b h b hb2 rfl,h4.2⟩
 ·rcases hb with hb | hb
  ·exact p6 b hb
  ·have h4:=p4 b (List.mem_append_left _ hb)
   exact ⟨.inr h4.2.1,h4.2.2⟩
theorem CallOk.still {f : Nat} {args : List AV} {res : AV} {outs : List AV} (b : Bool) (h : CallOk P f args res outs) : CallOk P f args (stillB b res) outs:=by
 cases b
 ·exact h
 ·intro Γ S w vs bs h1 h2 h3 h4 h5
  exact Calls.mono (h Γ S w vs bs h1 h2 h3 h4 h5) fun _ _ => CallPost.still
theorem after_call {w' : World} {res : AV} {outs : List AV} {v : Value} {bs1 bs2 : List Nat} {lents : List Value} {l : Lent} {rs : List (Nat × Option Row)} {n : Nat} {S2 : Nat → Prop} {extra : List Nat}
  (hR : RowsOk P Γ Own σ S w R) (hF : Free Own σ w s) (hS2 : ∀ b,S b → S2 b) (hS2lt : ∀ b,S2 b → b < w'.heap.size)
  (h1 : OwnR S2 w' v res bs1) (h2 : LiftL (ArgR P Γ S2 w') lents outs bs2) (hnd : (bs1 ++ bs2).Nodup)
  (hnew : ∀ b ∈ bs1 ++ bs2,¬ S2 b∧(w.heap.size≤b ∨ b ∈ blocksOf σ l.mv)) (hlr : LentRows σ S w R lents l.out) (hmv : ∀ i ∈ l.mv,∃ r,R i = some r) (hout : ∀ i ∈ l.out,i ∈ l.mv)
  (hb : backs R (imRes s res).2.2 l.out outs = some (rs,n)) (hn : n≤s + siteWidth)
  (hkeep : ∀ b,b < w.heap.size → b ∉ blocksOf σ l.mv → w'.heap[b]? = w.heap[b]?) (hsame : Same w w') (hSmv : ∀ b ∈ blocksOf σ l.mv,¬ S b)
  (hrest : ∀ id r b,R id = some r → id ∉ l.mv → id ∉ extra → Loc.has (σ id) b → ¬ S2 b) (hbound : ∀ b,S2 b → S b ∨ Own b) :
  Step P Γ Own σ S w R s ⟨(imRes s res).1,rowsWr (imRes s res).2.1 ++ rs ++ gone (l.mv.filter fun i=>!l.out.contains i) ++ gone extra,l.mv ++ l.fz⟩ v w':=by
 obtain ⟨τ1,i1,r1⟩:=imRes_sound (P:=P) (Γ:=Γ) h1 s;obtain ⟨τ2,le2,dom2,hτ2⟩:=backs_sound hR h2 hlr hb;have hw32 : siteWidth = 32:=rfl;have d1 : ∀ id l,τ1 id = some l → σ id = none:=fun id l h => hF.ids id (i1.dom id l h).1 (by have:=(i1.dom id l h).2; omega)
 have d2 : ∀ id l,τ2 id = some l → σ id = none:=fun id l h => hF.ids id (by have:=(dom2 id l h).1; have:=i1.le; omega) (by have:=(dom2 id l h).2; omega)
 have d12 : ∀ id l l',τ1 id = some l → τ2 id = some l' → False:=fun id l l' h h' => by
  have:=i1.dom id l h;have:=dom2 id l' h';omega
 let ρ : Ids:=σ.union (τ1.union τ2)
 have hσρ : σ.le ρ:=Ids.le_union_left _ _;have h12 : (τ1.union τ2).le ρ:=Ids.le_union_right fun id l l' h h' => by
  unfold Ids.union at h';cases h1 : τ1 id with
  | some q => rw [d1 id q h1] at h; cases h
  | none => rw [h1] at h'; rw [d2 id l' h'] at h; cases h
 have hτ1ρ : τ1.le ρ:=fun k l h => h12 k l (Ids.le_union_left _ _ k l h)
 have hτ2ρ : τ2.le ρ:=fun k l h => h12 k l (Ids.le_union_right d12 k l h)
 obtain ⟨ok2,blk2,inj2,key2,out2⟩:=hτ2 ρ hσρ hτ2ρ;have hSkeep : ∀ b,S b → w'.heap[b]? = w.heap[b]?:=fun b hb => hkeep b (hR.old b hb) fun hm=>hSmv b hm hb
 obtain ⟨nd1,nd2,nd3⟩:=List.nodup_append.1 hnd;have parts : ∀ k r,updR (rowsWr (imRes s res).2.1 ++ rs ++ gone (l.mv.filter fun i=>!l.out.contains i) ++ gone extra) R k = some r →
   lk k (imRes s res).2.1 = some r ∨ (lk k rs = some (some r)) ∨ (R k = some r∧k ∉ l.mv∧k ∉ extra∧lk k (imRes s res).2.1 = none∧lk k rs = none):=by
  intro k r hk;rw [updR_eq,lk_append,lk_append,lk_append,lk_rowsWr,lk_gone,lk_gone] at hk;cases hq1 : lk k (imRes s res).2.1 with
  | some r' => rw [hq1] at hk; simp at hk; subst hk; exact .inl rfl
  | none =>
   rw [hq1] at hk;cases hq2 : lk k rs with
   | some r' => rw [hq2] at hk; simp at hk; subst hk; exact .inr (.inl rfl)
   | none =>
    rw [hq2] at hk;simp only [Option.map_none,Option.none_or] at hk;have hnout : k ∉ l.out:=fun hm=>by obtain ⟨r',hr'⟩:=out2 k hm; rw [hq2] at hr'; cases hr'
    by_cases hm : k ∈ l.mv
    ·have : k ∈ l.mv.filter fun i=>!l.out.contains i:=by simp [hm,hnout]
     rw [if_pos this] at hk; simp at hk
    ·have : k ∉ l.mv.filter fun i=>!l.out.contains i:=by simp [hm]
     by_cases hx : k ∈ extra
     ·rw [if_neg this,if_pos hx] at hk; simp at hk
     ·rw [if_neg this,if_neg hx] at hk; simp at hk
      exact .inr (.inr ⟨hk,hm,hx,rfl,rfl⟩)
 have has1 : ∀ k r b,lk k (imRes s res).2.1 = some r → Loc.has (ρ k) b → Loc.has (τ1 k) b:=by
  intro k r b hk hb;obtain ⟨q,hq⟩:=(i1.ok k r hk).some;exact has_le hτ1ρ hq hb
 have has3 : ∀ k r b,R k = some r → Loc.has (ρ k) b → Loc.has (σ k) b:=by
  intro k r b hk hb;obtain ⟨q,hq⟩:=(hR.ok k r hk).some;exact has_le hσρ hq hb
 have oldBlk : ∀ k r b,R k = some r → k ∉ l.mv → Loc.has (σ k) b → b < w.heap.size∧b ∉ blocksOf σ l.mv:=by
  intro k r b hk hm hb;refine ⟨hR.lt hk hb,fun hmem=>?_⟩
  obtain ⟨j,hj,hjb⟩:=mem_blocksOf hmem;obtain ⟨r',hr'⟩:=hmv j hj;exact hm (hR.inj k j r r' b hk hr' hb hjb ▸ hj)
 have newBlk : ∀ b,b ∈ bs1 ++ bs2 → ¬ (b < w.heap.size∧b ∉ blocksOf σ l.mv):=by
  intro b hb ⟨q1,q2⟩;rcases (hnew b hb).2 with h | h
  ·omega
  ·exact q2 h
 have ownMv : ∀ b,b ∈ blocksOf σ l.mv → Own b:=by
  intro b hb;obtain ⟨j,hj,hjb⟩:=mem_blocksOf hb;obtain ⟨r',hr'⟩:=hmv j hj;exact (hR.apart j r' b hr' hjb).2
 refine ⟨ρ,S2,r1.mono hτ1ρ (fun _ h => h) fun _ _ => rfl,⟨fun k r hk => ?_,fun k r b hk hb => ?_,fun k k' r r' b hk hk' hb hb' => ?_,hS2lt⟩,⟨hσρ,hS2,hSkeep,fun b hb => ?_,hsame,hbound⟩,fun id hid => ?_⟩
 ·rcases parts k r hk with hq | hq | ⟨hq,hm,hx,_⟩
  ·exact (i1.ok k r hq).ids hτ1ρ
  ·exact ok2 k r hq
  ·exact (hR.ok k r hq).mono hσρ hS2 hSkeep hsame.size fun b hb => hkeep b (oldBlk k r b hq hm hb).1 (oldBlk k r b hq hm hb).2
 ·rcases parts k r hk with hq | hq | ⟨hq,hm,hx,_⟩
  ·have hbm:=List.mem_append_left bs2 (i1.blk k b (has1 k r b hq hb))
   refine ⟨(hnew b hbm).1,?_⟩;rcases (hnew b hbm).2 with h | h
   ·exact hF.own b h
   ·exact ownMv b h
  ·have hbm:=List.mem_append_right bs1 (blk2 k r b hq hb)
   refine ⟨(hnew b hbm).1,?_⟩;rcases (hnew b hbm).2 with h | h
   ·exact hF.own b h
   ·exact ownMv b h
  ·have hb':=has3 k r b hq hb
   exact ⟨hrest k r b hq hm hx hb',(hR.apart k r b hq hb').2⟩
 ·rcases parts k r hk with hq | hq | ⟨hq,hm,hx,_⟩ <;> rcases parts k' r' hk' with hq' | hq' | ⟨hq',hm',hx',_⟩
  ·exact i1.inj nd1 k k' b (has1 k r b hq hb) (has1 k' r' b hq' hb')
  ·exact absurd rfl (nd3 b (i1.blk k b (has1 k r b hq hb)) b (blk2 k' r' b hq' hb'))
  ·exact absurd (oldBlk k' r' b hq' hm' (has3 k' r' b hq' hb')) (newBlk b (List.mem_append_left _ (i1.blk k b (has1 k r b hq hb))))
  ·exact absurd rfl (nd3 b (i1.blk k' b (has1 k' r' b hq' hb')) b (blk2 k r b hq hb))
  ·exact inj2 nd2 k k' r r' b hq hq' hb hb'
  ·exact absurd (oldBlk k' r' b hq' hm' (has3 k' r' b hq' hb')) (newBlk b (List.mem_append_right _ (blk2 k r b hq hb)))
  ·exact absurd (oldBlk k r b hq hm (has3 k r b hq hb)) (newBlk b (List.mem_append_left _ (i1.blk k' b (has1 k' r' b hq' hb'))))
  ·exact absurd (oldBlk k r b hq hm (has3 k r b hq hb)) (newBlk b (List.mem_append_right _ (blk2 k' r' b hq' hb')))
  ·exact hR.inj k k' r r' b hq hq' (has3 k r b hq hb) (has3 k' r' b hq' hb')
 ·exact hkeep b (Nat.lt_of_not_le fun hle=>hb (hF.own b hle)) fun hm=>hb (ownMv b hm)
 ·show ρ id = σ id
  have hle1:=i1.le;cases hσ : σ id with
  | some q => exact hσρ id q hσ
  | none =>
   show (match σ id with | some q => some q | none => (τ1.union τ2) id) = none
   rw [hσ];show (match τ1 id with | some q => some q | none => τ2 id) = none
   cases h1 : τ1 id with
   | some q => have:=i1.dom id q h1; omega
   | none =>
    show τ2 id = none
    cases h2 : τ2 id with
    | some q => have:=dom2 id q h2; omega
    | none => rfl
def Enterable (P : Program) (f : Nat) : Prop := ∃ fn, P.funcs[f]? = some fn ∧ fn.body.isNone = false ∧ (fn.name == "runtime.NumGoroutine") = false
theorem callF_sound {f : Nat} {xs : List AV} {us : List Value} {bor : List Nat} {call : CallF} {K : Act → World → Prop} {Q : Exit → Act → World → Prop}
  (hG : GlobOk S w) (hR : RowsOk P Γ Own σ S w R) (hF : Free Own σ w s) (hallen : us.length = xs.length) (hall : ∀ (i : Nat) v c,us[i]? = some v → xs[i]? = some c → RelV σ S w v c)
  (h : evCallF call s R bor f xs = some e) (hcall : ∀ f vs r,call f vs = some r → CallOk P f vs r.1 r.2∧Enterable P f) (hrun : Enterable P f → (execOp a.eval o).run P w = .ok (.enter f us.toArray) w)
  (hK : ∀ v w',Step P Γ Own σ S w R s e v w' → K (a.put o.dst v) w') : o.wp P a w K Q:=by
 unfold evCallF at h;split at h
 ·rename_i l hl
  split at h
  ·rename_i hnd
   simp only [Bool.and_eq_true] at hnd;obtain ⟨hnd,hdis⟩:=hnd;split at h
   ·rename_i res0 outs hc
    obtain ⟨hok,hent⟩:=hcall f l.vs _ hc
    replace hok:=CallOk.still (bor.contains 1000) hok
    simp only at h hok;generalize stillB (bor.contains 1000) res0 = res at h hok;split at h
    ·rename_i rs n hb
     split at h
     ·rename_i hn
      simp only [Option.some.injEq] at h;obtain ⟨g1,g2,g3,g4⟩:=lendArgs_sound hR hl hallen hall;have hrun:=hrun hent;unfold Oper.wp;rw [hrun];simp only [Oper.upon];have hbl : ∀ b ∈ blocksOf σ l.mv,¬ Locked σ S R l.fz b∧b < w.heap.size:=by
       intro b hb;obtain ⟨j,hj,hjb⟩:=mem_blocksOf hb;obtain ⟨r',hr'⟩:=g2 j hj;refine ⟨?_,hR.lt hr' hjb⟩;rintro (h1 | ⟨k,hk,⟨q,hq⟩,hkb⟩)
       ·exact (hR.apart j r' b hr' hjb).1 h1
       ·have:=hR.inj j k r' q b hr' hq hjb hkb
        subst this;have:=List.all_eq_true.1 hdis j hj;simp at this;exact this hk
      have hlk:=(hR.lock l.fz).1.old;refine Calls.mono (hok Γ (Locked σ S R l.fz) w _ (blocksOf σ l.mv) g1 (blocksOf_nodup hR hnd g2) hbl hlk (hG.stay (fun _ h => .inl h) (Stay.refl _ _))) fun en w' hpost => ?_
      obtain ⟨v,S',bs1,bs2,rfl,p1,p2,p3,p4,p5,p6,p7,p8⟩:=hpost;refine hK v w' ?_;subst h;have hSmv : ∀ b ∈ blocksOf σ l.mv,¬ S b:=fun b hb hS => (hbl b hb).1 (.inl hS)
      have hnew : ∀ b ∈ bs1 ++ bs2,w.heap.size≤b ∨ b ∈ blocksOf σ l.mv:=fun b hb => (p4 b hb).2.1
      by_cases hfr : (res.fresh && outs.all AV.freshOut) = true
      ·simp only [hfr,if_true]
       simp only [Bool.and_eq_true] at hfr;have key:=after_call (extra:=[]) hR hF (S2:=S) (fun _ h => h) (fun b hb => Nat.lt_of_lt_of_le (hR.old b hb) p8.size) (p1.fresh hfr.1) (p2.imp (fun _ _ _ => ArgR.fresh) hfr.2) p3
        (fun b hb => ⟨fun hS=>(p4 b hb).1 (p5 b (.inl hS)),hnew b hb⟩) g4 g2 g3 hb hn p7 p8 hSmv (fun id r b hr _ _ hb => (hR.apart id r b hr hb).1) (fun _ h => .inl h)
       simpa [gone] using key
      ·simp only [hfr]
       exact after_call (extra:=l.fz) hR hF (S2:=S') (fun b hb => p5 b (.inl hb)) (fun b hb => (p6 b hb).2) p1 p2 p3 (fun b hb => ⟨(p4 b hb).1,hnew b hb⟩) g4 g2 g3 hb hn p7 p8 hSmv
        (fun id r b hr hm hx hb hS => by
         rcases (p6 b hS).1 with (h1 | ⟨k,hk,⟨q,hq⟩,hkb⟩) | h1 | h1
         ·exact (hR.apart id r b hr hb).1 h1
         ·exact hx (hR.inj id k r q b hr hq hb hkb ▸ hk)
         ·have:=hR.lt hr hb; omega
         ·obtain ⟨j,hj,hjb⟩:=mem_blocksOf h1
          obtain ⟨r',hr'⟩:=g2 j hj;exact hm (hR.inj id j r r' b hr hr' hb hjb ▸ hj))
        (fun b hS => by
         rcases (p6 b hS).1 with (h1 | ⟨k,hk,⟨q,hq⟩,hkb⟩) | h1 | h1
         ·exact .inl h1
         ·exact .inr (hR.apart k q b hq hkb).2
         ·exact .inr (hF.own b h1)
         ·obtain ⟨j,hj,hjb⟩:=mem_blocksOf h1
          obtain ⟨r',hr'⟩:=g2 j hj;exact .inr (hR.apart j r' b hr' hjb).2)
     ·cases h
    ·cases h
   ·cases h
  ·cases h
 ·cases h
theorem call_sound {fo : Operand} {args : Array Operand} {ats : Array TypeId} {af : AOpd} {aargs : List AOpd} {bor : List Nat} {call : CallF} {K : Act → World → Prop} {Q : Exit → Act → World → Prop}
  (hT : TmpsOk σ S w T a) (hR : RowsOk P Γ Own σ S w R) (hF : Free Own σ w s) (ho : o.op = .call ⟨.value fo,args,ats⟩) (hf : opd P none fo = some af) {nl : Bool} (hargs : opdsOf P nl args.toList ats.toList = some aargs)
  (h : evCall call s (getO T) R af aargs bor = some e) (hny : ∀ q,getO T af ≠ some (.yieldT q)) (hcall : ∀ f vs r,call f vs = some r → CallOk P f vs r.1 r.2∧Enterable P f)
  (hK : ∀ v w',Step P Γ Own σ S w R s e v w' → K (a.put o.dst v) w') : o.wp P a w K Q:=by
 have hall1 : ∀ {vs : List AV},mapO (getO T) aargs = some vs → (args.toList.map a.eval).length = vs.length∧∀ (i : Nat) v c,(args.toList.map a.eval)[i]? = some v → vs[i]? = some c → RelV σ S w v c:=by
  intro vs hgv;obtain ⟨o1,o2⟩:=opdsOf_spec hargs;obtain ⟨m1,m2⟩:=mapO_spec hgv;refine ⟨by simp at o1 ⊢; omega,fun i v c hv hc' => ?_⟩
  rw [List.getElem?_map] at hv;simp only [Option.map_eq_some_iff] at hv;obtain ⟨x,hx,rfl⟩:=hv;have hi : i < vs.length:=(List.getElem?_eq_some_iff.1 hc').1;have hia : i < aargs.length:=by omega
  obtain ⟨t,ht⟩:=o2 i x _ hx (List.getElem?_eq_getElem hia);exact Yp hT ht (m2 i _ c (List.getElem?_eq_getElem hia) hc')
 unfold evCall at h;split at h
 ·rename_i q vs hgf hgv; exact absurd hgf (hny q)
 ·rename_i f cap vs hgf hgv
  have hvf:=Yp hT hf hgf;have hfv : ∃ caps,a.eval fo = .func (.func f) #[] caps∧caps.size = cap.length∧∀ (i : Nat) v c,caps[i]? = some v → cap[i]? = some c → RelV σ S w v c:=by
   generalize a.eval fo = vf at hvf;cases hvf with
   | imm hv => cases hv with | func _ us _ hl hr => exact ⟨us,rfl,hl,fun i v c h1 h2 => .imm (hr i v c h1 h2)⟩
   | func _ us _ hl hr => exact ⟨us,rfl,hl,hr⟩
  obtain ⟨caps,hef,hcl,hcr⟩:=hfv;obtain ⟨hl1,hall⟩:=hall1 hgv;refine callF_sound (us:=args.toList.map a.eval ++ caps.toList) hT.2 hR hF (by simp only [List.length_append,Array.length_toList]; omega) (fun i v c hv hc' => ?_) h hcall (fun ⟨fn,hfn,hbody,hname⟩ => ?_) hK
  ·by_cases hi : i < vs.length
   ·rw [List.getElem?_append_left (by omega)] at hv
    rw [List.getElem?_append_left hi] at hc';exact hall i v c hv hc'
   ·rw [List.getElem?_append_right (by omega)] at hv
    rw [List.getElem?_append_right (by omega)] at hc'
    rw [hl1,Array.getElem?_toList] at hv;exact hcr _ v c hv hc'
  ·have harr : args.map a.eval ++ caps = (args.toList.map a.eval ++ caps.toList).toArray:=by
    apply Array.ext';simp
   simp only [execOp,ho,resolve,hef,Deferred.ofValue,pure_bind,invoke,callFunc,Sem.run_bind,run_program,Result.andThen_ok,hfn,hname,hbody,Bool.false_eq_true,if_false,Array.empty_append,Sem.run_pure];rw [harr]
 ·rename_i f b vs hgf hgv
  have hvf:=Yp hT hf hgf;have hfv : ∃ u,a.eval fo = .func (.func f) #[u] #[]∧RelV σ S w u b:=by
   generalize a.eval fo = vf at hvf;cases hvf with
   | imm hv => cases hv with | meth _ u _ hb => exact ⟨u,rfl,.imm hb⟩
   | meth _ u _ hb => exact ⟨u,rfl,hb⟩
  obtain ⟨u,hef,hub⟩:=hfv;obtain ⟨hl1,hall⟩:=hall1 hgv;refine callF_sound (us:=u :: args.toList.map a.eval) hT.2 hR hF (by simp only [List.length_cons]; omega) (fun i v c hv hc' => ?_) h hcall (fun ⟨fn,hfn,hbody,hname⟩ => ?_) hK
  ·cases i with
   | zero => simp at hv hc'; subst hv hc'; exact hub
   | succ i => exact hall i v c (by simpa using hv) (by simpa using hc')
  ·have harr : #[u] ++ args.map a.eval ++ #[] = (u :: args.toList.map a.eval).toArray:=by
    apply Array.ext';simp
   simp only [execOp,ho,resolve,hef,Deferred.ofValue,pure_bind,invoke,callFunc,Sem.run_bind,run_program,Result.andThen_ok,hfn,hname,hbody,Bool.false_eq_true,if_false,Sem.run_pure];rw [harr]
 ·cases h
end
end Go.Abs
namespace Go.Abs
section
variable {P : Program} {Γ : Gam} {Own : Nat → Prop} {σ : Ids} {S : Nat → Prop} {w : World} {R : Nat → Option Row} {s : Nat} {T : Nat → Option AV} {a : Act} {o : Oper} {e : Eff}
def FR (ro : Option Nat) : Fence:={ Fence.wide with round:=ro }
theorem calls_toIn {ro : Option Nat} {dn : Nat} {f : FuncId} {args : Array Value} {R : Ending → World → Prop} (h : Calls P f args w R) : CallsIn (FR ro) dn P f args w R:=callsIn_wide.2 h
theorem rows_toIn {ro : Option Nat} {dn : Nat} {row : String} {args : Array Value} {R : Value → World → Prop} (h : Go.Rows P row args w R) : RowsIn (FR ro) dn P row args w R:=fun c cs _ =>
 let ⟨v,w2,r,st⟩:=h c cs
 ⟨v,w2,r,stepsIn_wide.2 st⟩
theorem wp_toIn {ro : Option Nat} {dn : Nat} {o : Oper} {K : Act → World → Prop} {Q : Exit → Act → World → Prop} (hnd : ∀ c,o.op ≠ .defer c) (h : o.wp P a w K Q) : o.wpIn (FR ro) dn P a w K Q:=by
 refine ⟨fun _ _ => trivial,?_⟩
 rw [Oper.semAt_eq _ _ _ hnd];unfold Oper.wp at h;cases hr : (execOp a.eval o).run P w with
 | ok nx w' =>
  rw [hr] at h;cases nx <;> first
   | exact h
   | exact ⟨fun h=>(by cases h),calls_toIn h⟩
   | exact ⟨fun h=>(by cases h),rows_toIn h⟩
   | exact h.elim
 | halt hl w' =>
  rw [hr] at h;cases hl <;> first | exact h | exact h.elim
theorem round_toIn {ro : Option Nat} {dn l : Nat} {f : FuncId} {tmps : Array Value} {assign body : Code} {R : Ending → World → Prop} (h : RoundIn Fence.wide 0 P l f tmps assign body w R) :
  RoundIn (FR ro) dn P l f tmps assign body w R:=⟨trivial,fun c cs _ => h.2 c cs (room_wide _)⟩
theorem yield_sound {ro : Option Nat} {dn q : Nat} {vs : List AV} {fo : Operand} {args : Array Operand} {ats : Array TypeId} {af : AOpd} {aargs : List AOpd} {K : Act → World → Prop} {Q : Exit → Act → World → Prop}
  (hT : TmpsOk σ S w T a) (hR : RowsOk P Γ Own σ S w R) (hF : Free Own σ w s) (ho : o.op = .call ⟨.value fo,args,ats⟩) (hf : opd P none fo = some af) {nl : Bool} (hargs : opdsOf P nl args.toList ats.toList = some aargs)
  (hgf : getO T af = some (.yieldT q)) (hgv : mapO (getO T) aargs = some vs) (h : evYield s R q vs = some e)
  (hK : ∀ v w',Step P Γ Own σ S w R s e v w' → K (a.put o.dst v) w') : o.wpIn (FR ro) dn P a w K Q:=by
 unfold evYield at h;split at h
 ·rename_i m hq
  split at h
  ·rename_i k xs hm
   split at h
   ·rename_i vs' ids hfz
    split at h
    ·rename_i bb xs' hst
     split at h
     ·cases h
     ·rename_i hmi
      simp only [Option.some.injEq] at h;have hmi' : m ∉ ids:=by simpa using hmi
      obtain ⟨l,C,q1,q2⟩:=hR.ok q _ hq;obtain ⟨l',C',q3,hg,hn,hlt,hkp,hgam⟩:=hR.ok m _ hm;rw [q2] at q3;simp only [Option.some.injEq,Loc.gen.injEq] at q3;obtain ⟨rfl,rfl⟩:=q3;have hvf:=Yp hT hf hgf;have hef : a.eval fo = .func (.yield l) #[] #[]:=by
       generalize a.eval fo = vf at hvf;cases hvf with
       | imm h => cases h
       | yieldV _ l2 h2 =>
        rw [q1] at h2;simp only [Option.some.injEq,Loc.tag.injEq] at h2;subst h2; rfl
      obtain ⟨o1,o2⟩:=opdsOf_spec hargs;obtain ⟨m1,m2⟩:=mapO_spec hgv;obtain ⟨f1,f2⟩:=frzL_spec hfz;have hall : ∀ (i : Nat) v c,(args.toList.map a.eval)[i]? = some v → vs'[i]? = some c → RelI (Locked σ S R ids) w v c:=by
       intro i v c hv hc';rw [List.getElem?_map] at hv;simp only [Option.map_eq_some_iff] at hv;obtain ⟨x,hx,rfl⟩:=hv;have hiv : i < vs'.length:=(List.getElem?_eq_some_iff.1 hc').1;have hia : i < aargs.length:=by omega
       have hivs : i < vs.length:=by omega
       obtain ⟨t,ht⟩:=o2 i x _ hx (List.getElem?_eq_getElem hia);obtain ⟨j,hj,hsub⟩:=f2 i vs[i] c (List.getElem?_eq_getElem hivs) hc';exact (frz_sound hR _ hj (Yp hT ht (m2 i _ _ (List.getElem?_eq_getElem hia) (List.getElem?_eq_getElem hivs)))).lockMono hsub
      have hCm : ∀ b,b ∈ C → Loc.has (σ m) b:=fun b hb => ⟨_,q2,hb⟩
      have hqm : q ≠ m:=by rintro rfl; rw [hq] at hm; cases hm
      have hL:=(hR.lock ids).1.old;have hC1 : ∀ b ∈ C,¬ Locked σ S R ids b:=by
       rintro b hb (h1 | ⟨j,hj,⟨r,hr⟩,hjb⟩)
       ·exact (hR.apart m _ b hm (hCm b hb)).1 h1
       ·exact hmi' (hR.inj j m r _ b hr hm hjb (hCm b hb) ▸ hj)
      have hlen : (args.toList.map a.eval).length = vs'.length:=by simp at o1 ⊢; omega
      obtain ⟨fn,tmps,assign,body,hrun,hround⟩:=hg (Locked σ S R ids) w (args.toList.map a.eval) vs' k xs xs' bb C (hkp.up hgam fun _ h => .inl h) hst hlen hall hC1 hL
      refine ⟨fun _ _ => trivial,?_⟩
      rw [Oper.semAt_eq _ _ _ (fun c hc => by rw [ho] at hc; cases hc)]
      have harr : args.map a.eval ++ #[] = (args.toList.map a.eval).toArray:=by
       apply Array.ext';simp
      have hexec : (execOp a.eval o).run P w = .ok (.round l fn tmps assign body) w:=by
       simp only [execOp,ho,resolve,hef,Deferred.ofValue,pure_bind,invoke,Array.empty_append];first
        | exact hrun
        | (simp only [Array.append_empty] at harr ⊢; rw [harr]; exact hrun)
      rw [hexec,Oper.uponIn_round];refine ⟨fun h=>(by cases h),round_toIn (hround.mono fun en w' hp => ?_)⟩
      obtain ⟨rfl,C',p1,p2,p3,p4,p5⟩:=hp;refine hK _ w' ?_;subst h;have hsn:=hF.head;have hle : σ.le (σ.set s (.gen l C')):=Ids.le_set hsn;have hqs : q ≠ s:=by rintro rfl; rw [hsn] at q1; cases q1
      have hms : m ≠ s:=by rintro rfl; rw [hsn] at q2; cases q2
      have hSkeep : ∀ b,S b → w'.heap[b]? = w.heap[b]?:=fun b hb => p4 b (hR.old b hb) fun hc=>hC1 b hc (.inl hb)
      have hLkeep : ∀ b,Locked σ S R ids b → w'.heap[b]? = w.heap[b]?:=fun b hb => p4 b (hL b hb) fun hc=>hC1 b hc hb
      have hOld : ∀ id r,R id = some r → id ≠ m → ∀ b,Loc.has (σ id) b → b < w.heap.size∧b ∉ C:=fun id r hr hne b hb => ⟨hR.lt hr hb,fun hc=>hne (hR.inj id m r _ b hr hm hb (hCm b hc))⟩
      have parts : ∀ id r,updR ((q,some (.num s)) :: (m,none) :: (s,some (.log k xs')) :: gone ids) R id = some r →
        (id = q∧r = .num s) ∨ (id = s∧r = .log k xs') ∨ (id ≠ q∧id ≠ m∧id ≠ s∧id ∉ ids∧R id = some r):=by
       intro id r hr;simp only [updR] at hr;split at hr
       ·rename_i e; simp at hr; exact .inl ⟨e.symm,hr.symm⟩
       ·rename_i e1
        split at hr
        ·cases hr
        ·rename_i e2
         split at hr
         ·rename_i e; simp at hr; exact .inr (.inl ⟨e.symm,hr.symm⟩)
         ·rename_i e3
          rw [updR_gone] at hr;split at hr
          ·cases hr
          ·exact .inr (.inr ⟨Ne.symm e1,Ne.symm e2,Ne.symm e3,by assumption,hr⟩)
      have hasQ : ∀ b,¬ Loc.has ((σ.set s (.gen l C')) q) b:=by
       rintro b ⟨l',hl',hb⟩;rw [Ids.set_other hqs,q1] at hl'; cases hl'; cases hb
      have hasS : ∀ b,Loc.has ((σ.set s (.gen l C')) s) b → b ∈ C':=by
       rintro b ⟨l',hl',hb⟩;rw [Ids.set_self] at hl'; cases hl'; exact hb
      refine ⟨σ.set s (.gen l C'),Locked σ S R ids,.imm (.bool _),⟨fun id r hr => ?_,fun id r b hr hb => ?_,fun id id' r r' b hr hr' hb hb' => ?_,fun b hb => Nat.lt_of_lt_of_le (hL b hb) p5.size⟩,
       ⟨hle,fun _ h => .inl h,hSkeep,fun b hb => ?_,p5,fun b hb => ?_⟩,fun id hid => set_outside id hid⟩
      ·rcases parts id r hr with ⟨rfl,rfl⟩ | ⟨rfl,rfl⟩ | ⟨_,hne,hns,hni,hr⟩
       ·exact ⟨l,C',by rw [Ids.set_other hqs]; exact q1,Ids.set_self ..⟩
       ·exact ⟨l,C',Ids.set_self ..,hg,p2,fun b hb => (p3 b hb).2,hkp,p1⟩
       ·exact (hR.ok id r hr).mono hle (fun _ h => .inl h) hSkeep p5.size fun b hb => p4 b (hOld id r hr hne b hb).1 (hOld id r hr hne b hb).2
      ·rcases parts id r hr with ⟨rfl,rfl⟩ | ⟨rfl,rfl⟩ | ⟨_,hne,hns,hni,hr⟩
       ·exact absurd hb (hasQ b)
       ·rcases (p3 b (hasS b hb)).1 with h | h
        ·exact ⟨hC1 b h,(hR.apart m _ b hm (hCm b h)).2⟩
        ·exact ⟨fun hl=>by have:=hL b hl; omega,hF.own b h⟩
       ·rw [Ids.set_other hns] at hb
        refine ⟨?_,(hR.apart id r b hr hb).2⟩;rintro (h1 | ⟨j,hj,⟨r',hr'⟩,hjb⟩)
        ·exact (hR.apart id r b hr hb).1 h1
        ·exact hni (hR.inj id j r r' b hr hr' hb hjb ▸ hj)
      ·have cross : ∀ id r,R id = some r → id ≠ m → id ≠ s → Loc.has ((σ.set s (.gen l C')) id) b → Loc.has ((σ.set s (.gen l C')) s) b → False:=by
        intro id r hr hne hns hb hs;rw [Ids.set_other hns] at hb;obtain ⟨h1,h2⟩:=hOld id r hr hne b hb;rcases (p3 b (hasS b hs)).1 with h | h
        ·exact h2 h
        ·omega
       rcases parts id r hr with ⟨e1,_⟩ | ⟨e1,_⟩ | ⟨_,hne,hns,_,hr⟩ <;> rcases parts id' r' hr' with ⟨e2,_⟩ | ⟨e2,_⟩ | ⟨_,hne',hns',_,hr'⟩
       ·rw [e1,e2]
       ·rw [e1] at hb; exact absurd hb (hasQ b)
       ·rw [e1] at hb; exact absurd hb (hasQ b)
       ·rw [e2] at hb'; exact absurd hb' (hasQ b)
       ·rw [e1,e2]
       ·rw [e1] at hb; exact (cross id' r' hr' hne' hns' hb' hb).elim
       ·rw [e2] at hb'; exact absurd hb' (hasQ b)
       ·rw [e2] at hb'; exact (cross id r hr hne hns hb hb').elim
       ·rw [Ids.set_other hns] at hb
        rw [Ids.set_other hns'] at hb';exact hR.inj id id' r r' b hr hr' hb hb'
      ·refine p4 b (Nat.lt_of_not_le fun hge=>hb (hF.own b hge)) fun hc=>hb (hR.apart m _ b hm (hCm b hc)).2
      ·rcases hb with hb | ⟨j,_,⟨r',hr'⟩,hjb⟩
       ·exact .inl hb
       ·exact .inr (hR.apart j r' b hr' hjb).2
    ·cases h
   ·cases h
  ·cases h
 ·cases h
end
section
variable {P : Program} {Γ : Gam} {Own : Nat → Prop} {σ : Ids} {S : Nat → Prop} {w : World} {R : Nat → Option Row} {s : Nat} {T : Nat → Option AV} {a : Act} {o : Oper} {e : Eff}
theorem op_sound {ro : Option Nat} {dn : Nat} {bor : Nat → List Nat} {aop : AOp} {call : CallF} {K : Act → World → Prop} {Q : Exit → Act → World → Prop}
  (hT : TmpsOk σ S w T a) (hR : RowsOk P Γ Own σ S w R) (hF : Free Own σ w s) (hc : compOp P bor o.type o.op = some aop) (he : evalOp call s (getO T) R aop = some e)
  (hcall : ∀ f vs r,call f vs = some r → CallOk P f vs r.1 r.2∧Enterable P f) (hK : ∀ v w',Step P Γ Own σ S w R s e v w' → K (a.put o.dst v) w') : o.wpIn (FR ro) dn P a w K Q:=by
 have hnd : ∀ c,o.op ≠ .defer c:=fun c hd => by rw [hd] at hc; simp [compOp] at hc
 have fin : (∃ v w',OpRuns P a o w v w'∧Step P Γ Own σ S w R s e v w') → o.wpIn (FR ro) dn P a w K Q:=fun ⟨v,w',h1,h2⟩ => wp_toIn hnd (h1.wp (hK v w' h2))
 have ag1 : ∀ {ag : Bool} {n : Nat},(ag = true ∨ n = 1) → ag = false → n = 1:=fun h h' => h.resolve_left (by simp [h'])
 cases hop : o.op <;> rw [hop] at hc <;> simp only [compOp] at hc
 case move x =>
  obtain ⟨ao,h1,rfl⟩:=Option.map_eq_some_iff.1 hc;exact fin (mv_sound hT hR (.inl hop) h1 call he)
 case assign x =>
  obtain ⟨ao,h1,rfl⟩:=Option.map_eq_some_iff.1 hc;exact fin (mv_sound hT hR (.inr hop) h1 call he)
 case pick c x y =>
  split at hc
  ·rename_i c' x' y' h1 h2 h3
   simp at hc; subst hc
   exact fin (pick_sound hT hR hop h1 h2 h3 call he)
  ·cases hc
 case alloc t =>
  split at hc
  ·rename_i z hz
   simp at hc; subst hc
   exact fin (alloc_sound hR hF hop hz call he)
  ·cases hc
 case box t x =>
  obtain ⟨ao,h1,rfl⟩:=Option.map_eq_some_iff.1 hc;exact fin (box_sound hT hR hF hop h1 call he)
 case build t parts =>
  split at hc
  ·rename_i fields z hu hz
   split at hc
   ·rename_i ps hps
    split at hc
    ·rename_i hcond
     simp only [Bool.and_eq_true] at hcond;simp at hc; subst hc
     exact fin (build_struct_sound hT hR hop hu hz (by simpa using hcond.2) hps hcond.1 call he)
    ·cases hc
   ·cases hc
  ·rename_i len el z hu hz
   split at hc
   ·rename_i n hn
    split at hc
    ·rename_i ps hps
     split at hc
     ·rename_i hcond
      simp at hc; subst hc
      exact fin (build_array_sound hT hR hop hu hz (by simpa using hcond) hn hps call he)
     ·cases hc
    ·cases hc
   ·cases hc
  ·cases hc
 case buildSlice t len parts =>
  split at hc
  ·rename_i el hu
   split at hc
   ·rename_i n z hn hz
    split at hc
    ·rename_i ps hps
     split at hc
     ·split at hc
      ·rename_i hcond
       obtain ⟨c1,c2,c3,c4,c5,c6⟩:=hcond;simp only [Option.some.injEq] at hc; subst hc
       exact fin (mkTab_sound hT hR hF hop hu hn hz hps c1 c2 c3 c5 he)
      ·cases hc
     split at hc
     ·rename_i hcond
      simp only [Option.some.injEq] at hc; subst hc
      exact fin (mkList_sound hT hR hF hop hu hn hz hps hcond.1 hcond.2.1 hcond.2.2.2.1 hcond.2.2.2.2 he)
     ·cases hc
    ·cases hc
   ·cases hc
  ·cases hc
 case insert t m k x =>
  split at hc
  ·rename_i kt et hu
   split at hc
   ·rename_i ks hks
    unfold compSetS at hc;split at hc
    ·rename_i m' k' x' h2 h3 h4 h5
     simp at hc; subst hc
     exact fin (mapSetS_sound hT hR (.inr hop) hu hks h3 h4 h5 he)
    ·cases hc
   ·split at hc
    ·rename_i kk ag m' k' x' h1 h2 h3 h4 h5
     split at hc
     ·simp at hc; subst hc
      exact fin (mapSet_sound hT hR (.inr hop) hu h1 h3 h4 h5 he)
     ·simp at hc; subst hc
      exact fin (mapSetV_sound hT hR (.inr hop) hu h1 h3 h4 h5 he)
    ·cases hc
  ·cases hc
 case load t x =>
  split at hc
  ·rename_i n ag x' h1 h2 h3
   split at hc
   ·rename_i hcond
    simp at hc; subst hc
    exact fin (load_sound hT hR hop h1 h2 (ag1 hcond) h3 he)
   ·cases hc
  ·cases hc
 case store t x y =>
  split at hc
  ·rename_i n x' y' h1 h2 h3
   simp at hc; subst hc
   exact fin (store_sound hT hR hop h1 h2 h3 he)
  ·cases hc
 case nilCheck x =>
  obtain ⟨ao,h1,rfl⟩:=Option.map_eq_some_iff.1 hc;exact fin (nilCk_sound hT hR hop h1 call he)
 case binOp op t x y ty =>
  split at hc
  ·rename_i x' y' h1 h2
   split at hc
   ·split at hc
    ·simp at hc; subst hc; exact fin (bin_sound hT hR hop h1 h2 call he)
    ·rename_i hu; simp at hc; subst hc; exact fin (eq_sound hT hR hop (.inl rfl) (.inl ⟨rfl,hu⟩) h1 h2 call he)
    ·simp at hc; subst hc; exact fin (strEq_sound hT hR hop (.inl rfl) h1 h2 he)
    ·rename_i fs hu
     split at hc
     ·rename_i ks hks
      split at hc
      ·cases hc
      ·rename_i hg
       simp at hc; subst hc
       exact fin (eq_sound hT hR hop (.inl rfl) (.inr ⟨ks,fs,rfl,hu,hks,by simpa using hg⟩) h1 h2 call he)
     ·cases hc
    ·rename_i el hu
     split at hc
     ·simp at hc; subst hc; exact fin (isNil_sound hT hR hop (.inl rfl) hu h1 call he)
     ·cases hc
    ·cases hc
   ·split at hc
    ·simp at hc; subst hc; exact fin (bin_sound hT hR hop h1 h2 call he)
    ·rename_i hu; simp at hc; subst hc; exact fin (eq_sound hT hR hop (.inr rfl) (.inl ⟨rfl,hu⟩) h1 h2 call he)
    ·simp at hc; subst hc; exact fin (strEq_sound hT hR hop (.inr rfl) h1 h2 he)
    ·rename_i fs hu
     split at hc
     ·rename_i ks hks
      split at hc
      ·cases hc
      ·rename_i hg
       simp at hc; subst hc
       exact fin (eq_sound hT hR hop (.inr rfl) (.inr ⟨ks,fs,rfl,hu,hks,by simpa using hg⟩) h1 h2 call he)
     ·cases hc
    ·rename_i el hu
     split at hc
     ·simp at hc; subst hc; exact fin (isNil_sound hT hR hop (.inr rfl) hu h1 call he)
     ·cases hc
    ·cases hc
   ·simp at hc; subst hc; exact fin (bin_sound hT hR hop h1 h2 call he)
  ·cases hc
 case unOp op ty x =>
  split at hc
  ·obtain ⟨ao,h1,rfl⟩:=Option.map_eq_some_iff.1 hc
   exact fin (un_sound hT hR hop h1 call he)
  ·obtain ⟨ao,h1,rfl⟩:=Option.map_eq_some_iff.1 hc
   exact fin (un_sound hT hR hop h1 call he)
  ·cases hc
 case convert src dst x =>
  split at hc
  ·rename_i k0 k h1 h2
   obtain ⟨ao,h3,rfl⟩:=Option.map_eq_some_iff.1 hc;exact fin (conv_sound hT hR hop h1 h2 h3 call he)
  ·rename_i h1 h2
   obtain ⟨ao,h3,rfl⟩:=Option.map_eq_some_iff.1 hc;exact fin (strId_sound hT hR hop h1 h2 h3 he)
  ·rename_i el h1 h2
   split at hc
   ·rename_i hel
    obtain ⟨ao,h3,rfl⟩:=Option.map_eq_some_iff.1 hc;exact fin (strOf_sound hT hR hop h1 hel h2 h3 he)
   ·cases hc
  ·cases hc
 case makeFunc fn first captured =>
  cases fn <;> simp only at hc
  case func f =>
   split at hc
   ·rename_i hf
    obtain ⟨ao,h1,rfl⟩:=Option.map_eq_some_iff.1 hc;exact fin (fn_sound hT hR hop hf h1 call he)
   ·rename_i x hf
    split at hc
    ·rename_i hcap
     obtain ⟨ao,h1,rfl⟩:=Option.map_eq_some_iff.1 hc;exact fin (meth_sound hT hR hop hf hcap h1 call he)
    ·cases hc
   ·cases hc
  all_goals cases hc
 case makeMap t r =>
  cases r with
  | none =>
   simp only at hc;split at hc
   ·split at hc
    ·split at hc
     ·simp at hc; subst hc; exact fin (mkMap_sound hR hF hop call he)
     ·simp at hc; subst hc; exact fin (mkMapV_sound hR hF hop call he)
    ·obtain ⟨ks,h1,rfl⟩:=Option.map_eq_some_iff.1 hc
     exact fin (mkMapS_sound hR hF hop call he)
   ·cases hc
  | some r => simp at hc
 case makeSlice t l c =>
  split at hc
  ·rename_i el hu
   split at hc
   ·rename_i i z l' c' h1 h2 h3 h4
    split at hc
    ·rename_i hcond
     simp at hc; subst hc
     exact fin (mkSlice_sound hT hR hF hop hu h1 h2 hcond.1 hcond.2.1 hcond.2.2.1 hcond.2.2.2.1 h3 h4 call he)
    ·cases hc
   ·cases hc
  ·cases hc
 case slice t x lo hi mx =>
  cases mx with
  | none =>
   simp only at hc;split at hc
   ·rename_i el hu
    split at hc
    ·rename_i n x' lo' hi' h1 h2 h3 h4
     split at hc
     ·simp at hc; subst hc; exact fin (slice_sound hT hR hop hu h1 h2 h3 h4 he)
     ·cases hc
    ·cases hc
   ·cases hc
  | some m =>
   cases hi with
   | none => simp at hc
   | some hi =>
    simp only at hc;split at hc
    ·rename_i el hu
     split at hc
     ·rename_i n x' lo' hi' mx' h1 h2 h3 h4 h5
      split at hc
      ·simp at hc; subst hc; exact fin (slice3_sound hT hR hop hu h1 h2 h3 h4 h5 call he)
      ·cases hc
     ·cases hc
    ·cases hc
 case fieldAddr t x f =>
  split at hc
  ·rename_i fields x' h1 h2
   split at hc
   ·rename_i fl h3
    split at hc
    ·rename_i n h4
     split at hc
     ·cases hc
     ·rename_i hz
      simp at hc; subst hc
      exact fin (fieldA_sound hT hR hop h1 h3 h4 hz rfl h2 call he)
    ·cases hc
   ·cases hc
  ·cases hc
 case field t x f =>
  split at hc
  ·rename_i fields x' h1 h2
   split at hc
   ·rename_i fl h3
    split at hc
    ·rename_i n ag h4 h5
     split at hc
     ·rename_i hcond
      simp at hc; subst hc
      exact fin (field_sound hT hR hop h1 h3 h4 h5 (ag1 hcond) rfl h2 call he)
     ·cases hc
    ·cases hc
   ·cases hc
  ·cases hc
 case indexAddr t x i =>
  split at hc
  ·rename_i el x' i' h1 h2 h3
   split at hc
   ·rename_i n h4
    split at hc
    ·simp at hc; subst hc; exact fin (indexA_sound hT hR hop h1 h4 h2 h3 he)
    ·cases hc
   ·cases hc
  ·rename_i len el x' i' h1 h2 h3
   split at hc
   ·rename_i n h4
    split at hc
    ·simp at hc; subst hc; exact fin (indexP_sound hT hR hop h1 h4 h2 h3 call he)
    ·cases hc
   ·cases hc
  ·cases hc
 case index t x i =>
  split at hc
  ·rename_i len el x' i' h1 h2 h3
   split at hc
   ·rename_i n ag h4 h5
    split at hc
    ·rename_i hcond
     simp at hc; subst hc
     exact fin (index_sound hT hR hop h1 h4 h5 (ag1 hcond) h2 h3 call he)
    ·cases hc
   ·cases hc
  ·rename_i x' i' h1 h2 h3
   simp at hc; subst hc
   exact fin (strAt_sound hT hR hop h1 h2 h3 he)
  ·cases hc
 case range t m =>
  split at hc
  ·rename_i kt et hu
   obtain ⟨ao,h1,rfl⟩:=Option.map_eq_some_iff.1 hc;exact fin (rangeI_sound hT hR hF hop hu h1 he)
  ·cases hc
 case entry it =>
  obtain ⟨ao,h1,rfl⟩:=Option.map_eq_some_iff.1 hc;exact fin (entry_sound hT hR hop h1 he)
 case mapEntry t m k =>
  split at hc
  ·rename_i kt et hu
   split at hc
   ·rename_i ks hks
    unfold compEnt at hc;split at hc
    ·rename_i z m' k' h2 h3 h4 h5
     simp at hc; subst hc
     exact fin (mapEnt_sound hT hR hF hop hu hks h3 h4 h5 he)
    ·cases hc
   ·cases hc
  ·cases hc
 case entryStore t m st x =>
  unfold compSt at hc;split at hc
  ·rename_i kt et hu
   split at hc
   ·rename_i m' s' x' h3 h4 h5
    simp at hc; subst hc
    exact fin (entSt_sound hT hR hop h3 h4 h5 he)
   ·cases hc
  ·cases hc
 case lookup t m k ok =>
  split at hc
  ·rename_i kt et hu
   split at hc
   ·rename_i ks hks
    split at hc
    ·rename_i z m' k' h2 h3 h4 h5
     split at hc
     ·simp at hc; subst hc; exact fin (mapGetS_sound hT hR hop hu hks h3 h4 h5 he)
     ·cases hc
    ·cases hc
   ·split at hc
    ·rename_i kk z m' k' h1 h2 h3 h4 h5
     split at hc
     ·simp at hc; subst hc; exact fin (mapGet_sound hT hR hop hu h1 h3 h4 h5 he)
     ·cases hc
    ·cases hc
  ·cases hc
 case mapUpdate t m k x =>
  split at hc
  ·rename_i kt et hu
   split at hc
   ·rename_i ks hks
    unfold compSetS at hc;split at hc
    ·rename_i m' k' x' h2 h3 h4 h5
     simp at hc; subst hc
     exact fin (mapSetS_sound hT hR (.inl hop) hu hks h3 h4 h5 he)
    ·cases hc
   ·split at hc
    ·rename_i kk ag m' k' x' h1 h2 h3 h4 h5
     split at hc
     ·simp at hc; subst hc
      exact fin (mapSet_sound hT hR (.inl hop) hu h1 h3 h4 h5 he)
     ·simp at hc; subst hc
      exact fin (mapSetV_sound hT hR (.inl hop) hu h1 h3 h4 h5 he)
    ·cases hc
  ·cases hc
 case extract x i =>
  obtain ⟨ao,h1,rfl⟩:=Option.map_eq_some_iff.1 hc;exact fin (extract_sound hT hR hop h1 call he)
 case call c =>
  obtain ⟨callee,args,ats⟩:=c;simp only at hc;split at hc
  ·rename_i f
   split at hc
   ·rename_i f' args' h1 h2
    simp at hc; subst hc
    by_cases hy : ∃ q,getO T f' = some (.yieldT q)
    ·obtain ⟨q,hq⟩:=hy
     cases hv : mapO (getO T) args' with
     | none => simp [evalOp,evCall,hq,hv] at he
     | some vs =>
      simp only [evalOp,evCall,hq,hv] at he;exact yield_sound hT hR hF hop h1 h2 hq hv he hK
    ·exact wp_toIn hnd (call_sound hT hR hF hop h1 h2 he (fun q hq => hy ⟨q,hq⟩) hcall hK)
   ·cases hc
  ·split at hc
   ·rename_i x t hx ht
    have hx' : args = #[x]:=by rw [← Array.toArray_toList (xs:=args),hx]
    have ht' : ats = #[t]:=by rw [← Array.toArray_toList (xs:=ats),ht]
    subst hx' ht';split at hc
    ·rename_i el hu
     obtain ⟨ao,h1,rfl⟩:=Option.map_eq_some_iff.1 hc;exact fin (len_sound hT hR hop hu h1 call he)
    ·rename_i n el hu
     simp at hc; subst hc
     simp only [evalOp,getO,Option.some.injEq] at he;subst he;refine fin ⟨.int .i64 n,w,.inl ?_,Step.pure hR (.imm (.int _ _))⟩;simp only [execOp,hop,resolve,invoke,builtin,pure_bind,Sem.run_bind,List.map_toArray,List.map_cons,List.map_nil];unfold Builtin.len_;simp [run_underlying hu,goInt]
    ·rename_i kt et hu
     obtain ⟨ao,h1,rfl⟩:=Option.map_eq_some_iff.1 hc;exact fin (mapLen_sound hT hR hop hu h1 he)
    ·rename_i hu
     obtain ⟨ao,h1,rfl⟩:=Option.map_eq_some_iff.1 hc;exact fin (strLen_sound hT hR hop hu h1 he)
    ·cases hc
   ·cases hc
  ·split at hc
   ·rename_i m k t u hx ht
    have hx' : args = #[m,k]:=by rw [← Array.toArray_toList (xs:=args),hx]
    have ht' : ats = #[t,u]:=by rw [← Array.toArray_toList (xs:=ats),ht]
    subst hx' ht';split at hc
    ·rename_i kt et hu
     split at hc
     ·rename_i kk m' k' h1 h2 h3
      simp at hc; subst hc
      exact fin (mapDel_sound hT hR hop hu h1 h2 h3 he)
     ·cases hc
    ·cases hc
   ·cases hc
  ·obtain ⟨ao,h1,rfl⟩:=Option.map_eq_some_iff.1 hc
   exact fin (minmax_sound (isMax:=true) hT hR hop h1 call he)
  ·obtain ⟨ao,h1,rfl⟩:=Option.map_eq_some_iff.1 hc
   exact fin (minmax_sound (isMax:=false) hT hR hop h1 call he)
  ·split at hc
   ·rename_i x t hx ht
    have hx' : args = #[x]:=by rw [← Array.toArray_toList (xs:=args),hx]
    have ht' : ats = #[t]:=by rw [← Array.toArray_toList (xs:=ats),ht]
    subst hx' ht';split at hc
    ·rename_i el hu
     split at hc
     ·rename_i n z x' h1 h2 h3
      split at hc
      ·rename_i hcond
       simp at hc; subst hc
       exact fin (clear_sound hT hR hop hu h1 h2 hcond.1 hcond.2.1 hcond.2.2 h3 call he)
      ·cases hc
     ·cases hc
    ·cases hc
   ·cases hc
  ·split at hc
   ·rename_i d x t u hx ht
    have hx' : args = #[d,x]:=by rw [← Array.toArray_toList (xs:=args),hx]
    have ht' : ats = #[t,u]:=by rw [← Array.toArray_toList (xs:=ats),ht]
    subst hx' ht';split at hc
    ·rename_i el el2 hu hu2
     split at hc
     ·rename_i n d' x' h1 h2 h3
      split at hc
      ·rename_i hcond
       simp at hc; subst hc
       exact fin (copy_sound hT hR hop hu h1 hcond.1 h2 h3 he)
      ·cases hc
     ·cases hc
    ·cases hc
   ·cases hc
  ·split at hc
   ·rename_i d x t u hx ht
    have hx' : args = #[d,x]:=by rw [← Array.toArray_toList (xs:=args),hx]
    have ht' : ats = #[t,u]:=by rw [← Array.toArray_toList (xs:=ats),ht]
    subst hx' ht';split at hc
    ·rename_i el hu
     split at hc
     ·rename_i i d' x' h1 h2 h3
      split at hc
      ·split at hc
       ·rename_i hcond
        obtain ⟨c1,c2,rfl,c4⟩:=hcond;simp only [Option.some.injEq] at hc; subst hc
        cases hz : i.zero with
        | none => simp [hz] at c4
        | some z => exact fin (appTab_sound hT hR hF hop hu h1 hz (by simpa [hz] using c4) c1 c2 h2 h3 he)
       ·cases hc
      split at hc
      ·rename_i hcond
       obtain ⟨c1,c2,rfl,c4⟩:=hcond;simp only [Option.some.injEq] at hc; subst hc
       cases hz : i.zero with
       | none => simp [hz] at c4
       | some z => exact fin (append_sound hT hR hF hop hu h1 hz (by simpa [hz] using c4) c1 c2 h2 h3 he)
      ·split at hc
       ·rename_i k z hu2 hz2
        split at hc
        ·rename_i hcond
         simp at hc; subst hc
         exact fin (appY_sound hT hR hF hop hu hu2 h1 hz2 hcond.1 hcond.2.1 hcond.2.2.1 hcond.2.2.2 h2 h3 he)
        ·cases hc
       ·cases hc
     ·cases hc
    ·cases hc
   ·cases hc
  ·split at hc
   ·rename_i x t hx ht
    have hx' : args = #[x]:=by rw [← Array.toArray_toList (xs:=args),hx]
    have ht' : ats = #[t]:=by rw [← Array.toArray_toList (xs:=ats),ht]
    subst hx' ht';split at hc
    ·rename_i el hu
     obtain ⟨ao,h1,rfl⟩:=Option.map_eq_some_iff.1 hc;exact fin (capN_sound hT hR hop hu h1 he)
    ·cases hc
   ·cases hc
  ·cases hc
 all_goals cases hc
end
end Go.Abs
