/-
 Steps of operations, first part: what a step is, rows that come and rows that are locked, what freezing means, operands.
 Steps of operations, second part: those that only compute, and those that look into rows.
 Steps of operations, third part: the others that only compute.
 Steps of operations, fourth part: rows that come, and rows that are written.
 Steps of operations, fifth part: structs and rows that are built, made, and appended to.
 Steps of operations, sixth part: append; maps; equality.
 Steps of operations, seventh part: maps; equality.
-/
import Derived.Test.YtlcikiobkmajbaaRel
import Derived.Test.YtlcikiobkmajbaaComp
import Derived.Laws.StructEq
import Derived.ChangeKeysEq
set_option linter.all false
namespace Go.Abs
def Ids.set (σ : Ids) (s : Nat) (l : Loc) : Ids:=fun id=>if id = s then some l else σ id
theorem Ids.le_set {σ : Ids} {s : Nat} {l : Loc} (h : σ s = none) : σ.le (σ.set s l):=by
 intro id l' h';unfold Ids.set;split
 ·rename_i e; subst e; rw [h] at h'; cases h'
 ·exact h'
@[simp] theorem Ids.set_self (σ : Ids) (s : Nat) (l : Loc) : (σ.set s l) s = some l:=by simp [Ids.set]
theorem Ids.set_other {σ : Ids} {s id : Nat} {l : Loc} (h : id ≠ s) : (σ.set s l) id = σ id:=by simp [Ids.set,h]
def Step (P : Program) (Γ : Gam) (Own : Nat → Prop) (σ : Ids) (S : Nat → Prop) (w : World) (R : Nat → Option Row) (s : Nat) (e : Eff) (v : Value) (w' : World) : Prop :=
 ∃ σ' S',RelV σ' S' w' v e.v∧RowsOk P Γ Own σ' S' w' (updR e.wr R)∧Ext Own σ S w σ' S' w'∧∀ id,id < s ∨ s + siteWidth≤id → σ' id = σ id
section
variable {P : Program} {Γ : Gam} {Own : Nat → Prop} {σ : Ids} {S : Nat → Prop} {w : World} {R : Nat → Option Row} {s : Nat}
theorem Step.pure {a : AV} {v : Value} (hR : RowsOk P Γ Own σ S w R) (h : RelV σ S w v a) : Step P Γ Own σ S w R s (.pure a) v w :=
 ⟨σ,S,h,hR,Ext.refl ..,fun _ _ => rfl⟩
theorem Step.read {a : AV} {v : Value} {rd : List Nat} (hR : RowsOk P Γ Own σ S w R) (h : RelV σ S w v a) : Step P Γ Own σ S w R s ⟨a,[],rd⟩ v w :=
 ⟨σ,S,h,hR,Ext.refl ..,fun _ _ => rfl⟩
theorem RowsOk.restrict {R' : Nat → Option Row} (h : RowsOk P Γ Own σ S w R) (hr : ∀ id r,R' id = some r → R id = some r) : RowsOk P Γ Own σ S w R' :=
 ⟨fun id r hi => h.ok id r (hr _ _ hi),fun id r b hi => h.apart id r b (hr _ _ hi),fun id id' r r' b hi hi' => h.inj id id' r r' b (hr _ _ hi) (hr _ _ hi'),h.old⟩
theorem TabAt.lt {w : World} {l : Loc} {sz : Nat} {es : List AV} (h : TabAt w l sz es) {b : Nat} (hb : b ∈ l.blocks) : b < w.heap.size:=by
 obtain ⟨b0,c,inn,cs,t,rfl,h2,h3,h4,h5,h6,h7,h8,h9,h10⟩:=h;simp only [Loc.blocks,List.mem_cons,List.mem_filterMap] at hb;rcases hb with rfl | ⟨o,ho,hb⟩
 ·exact (Array.getElem?_eq_some_iff.1 h2).1
 ·cases o with
  | none => cases hb
  | some q =>
   obtain ⟨b',c'⟩:=q;simp at hb; subst hb
   obtain ⟨i,hi,hio⟩:=List.getElem_of_mem ho;have ho' : inn[i]? = some (some (b',c')):=by rw [List.getElem?_eq_getElem hi,hio]
   have hx : ∃ x,(flat es)[i]? = some x:=by
    have : (flat es).length = es.length * sz:=by
     clear h2 h3 h4 h5 h8 h9 h10 ho' hio hi ho;induction es with
     | nil => simp [flat]
     | cons e es ih =>
      have h1:=h7 e (List.mem_cons_self ..);have h2:=ih fun e he => h7 e (List.mem_cons_of_mem _ he)
      simp only [flat,List.flatMap_cons,List.length_append,List.length_cons] at h2 ⊢;rw [h1,h2,Nat.add_mul]; omega
    exact ⟨_,List.getElem?_eq_getElem (by omega)⟩
   obtain ⟨x,hx⟩:=hx;obtain ⟨v,_,hc⟩:=h10 i x _ hx ho';rcases hc with ⟨_,hc,_⟩ | ⟨xs,_,_,⟨hc,_⟩ | ⟨b1,c1,cs1,t1,q1,_,q3,_⟩⟩
   ·cases hc
   ·cases hc
   ·cases q1
    exact (Array.getElem?_eq_some_iff.1 q3).1
theorem RowsOk.lt (h : RowsOk P Γ Own σ S w R) {id : Nat} {r : Row} {b : Nat} (hi : R id = some r) (hb : Loc.has (σ id) b) : b < w.heap.size:=by
 have hk:=h.ok id r hi;cases r with
 | arr sz es =>
  rcases hk with ⟨h1,_⟩ | ⟨b',c,cs,t,h1,h2,_⟩
  ·obtain ⟨l,hl,hb⟩:=hb
   rw [hl] at h1; cases h1; cases hb
  ·obtain rfl:=row_has h1 hb; exact (Array.getElem?_eq_some_iff.1 h2).1
 | box xs =>
  obtain ⟨b',cs,t,h1,h2,_⟩:=hk;obtain rfl:=row_has h1 hb; exact (Array.getElem?_eq_some_iff.1 h2).1
 | mp k kv =>
  obtain ⟨b',cs,t,h1,h2,_⟩:=hk;obtain rfl:=map_has h1 hb; exact (Array.getElem?_eq_some_iff.1 h2).1
 | mpS ks keys vals =>
  obtain ⟨b',cs,t,h1,h2,_⟩:=hk;obtain rfl:=map_has h1 hb; exact (Array.getElem?_eq_some_iff.1 h2).1
 | mpV k kv =>
  obtain ⟨b',cs,t,h1,h2,_⟩:=hk;obtain rfl:=map_has h1 hb; exact (Array.getElem?_eq_some_iff.1 h2).1
 | mpE ks keys vals i s =>
  obtain ⟨b',cs,t,n,h1,h2,_⟩:=hk;obtain rfl:=map_has h1 hb; exact (Array.getElem?_eq_some_iff.1 h2).1
 | iter left cur =>
  obtain ⟨r,m,es,clock,since,c0,seen,left',h1,_,h2,h3,_⟩:=hk;obtain ⟨l,hl,hb⟩:=hb;rw [hl] at h1; cases h1
  rcases List.mem_cons.1 hb with rfl | hb
  ·exact (Array.getElem?_eq_some_iff.1 h2).1
  ·rw [List.mem_singleton.1 hb]; exact (Array.getElem?_eq_some_iff.1 h3).1
 | num m =>
  obtain ⟨l',C,h1,_⟩:=hk;obtain ⟨l,hl,hb⟩:=hb;rw [hl] at h1; cases h1; cases hb
 | tab sz es =>
  rcases hk with ⟨h1,_⟩ | ⟨l',h1,h2⟩
  ·obtain ⟨l,hl,hb⟩:=hb
   rw [hl] at h1; cases h1; cases hb
  ·obtain ⟨l,hl,hb⟩:=hb
   rw [hl] at h1; cases h1
   exact h2.lt hb
 | log k xs =>
  obtain ⟨l',C,h1,_,_,hC,_⟩:=hk;obtain ⟨l,hl,hb⟩:=hb;rw [hl] at h1; cases h1; exact hC b hb
theorem RowsOk.alloc {w' : World} {l : Loc} {row : Row} (h : RowsOk P Γ Own σ S w R) (hs : σ s = none) (hO : ∀ b,w.heap.size≤b → Own b)
  (hl : ∀ b,b ∈ l.blocks → b = w.heap.size) (hw : ∀ b,b < w.heap.size → w'.heap[b]? = w.heap[b]?) (hS : Same w w')
  (hr : RowOk P Γ (σ.set s l) S w' s row) :
  RowsOk P Γ Own (σ.set s l) S w' (updR [(s,some row)] R)∧Ext Own σ S w (σ.set s l) S w':=by
 have hle : σ.le (σ.set s l):=Ids.le_set hs;have hkeep : ∀ b,S b → w'.heap[b]? = w.heap[b]?:=fun b hb => hw b (h.old b hb)
 have hR : ∀ id r,id ≠ s → updR [(s,some row)] R id = some r → R id = some r:=fun id r hne hi => by simpa [updR,Ne.symm hne] using hi
 have hnot : ∀ id r b,R id = some r → Loc.has (σ id) b → id ≠ s:=by
  rintro id r b _ ⟨l',hl',_⟩ rfl;rw [hs] at hl'; cases hl'
 refine ⟨⟨fun id r hi => ?_,fun id r b hi hb => ?_,fun id id' r r' b hi hi' hb hb' => ?_,fun b hb => Nat.lt_of_lt_of_le (h.old b hb) hS.size⟩,hle,fun _ h => h,hkeep,fun b hb => hw b ?_,hS,fun _ h => .inl h⟩
 ·by_cases hne : id = s
  ·subst hne
   simp [updR] at hi;subst hi; exact hr
  ·have hi':=hR id r hne hi
   exact (h.ok id r hi').mono hle (fun _ h => h) hkeep hS.size fun b hb => hw b (h.lt hi' hb)
 ·by_cases hne : id = s
  ·subst hne
   obtain ⟨l',hl',hb⟩:=hb;simp at hl'; subst hl'
   have:=hl b hb;subst this;exact ⟨fun hb=>Nat.lt_irrefl _ (h.old _ hb),hO _ (Nat.le_refl _)⟩
  ·rw [Ids.set_other hne] at hb
   exact h.apart id r b (hR id r hne hi) hb
 ·by_cases hne : id = s
  ·by_cases hne' : id' = s
   ·rw [hne,hne']
   ·subst hne
    obtain ⟨l',hl',hb⟩:=hb;simp at hl'; subst hl'
    have:=hl b hb;subst this;rw [Ids.set_other hne'] at hb';exact absurd (h.lt (hR id' r' hne' hi') hb') (Nat.lt_irrefl _)
  ·by_cases hne' : id' = s
   ·subst hne'
    obtain ⟨l',hl',hb'⟩:=hb';simp at hl'; subst hl'
    have:=hl b hb';subst this;rw [Ids.set_other hne] at hb;exact absurd (h.lt (hR id r hne hi) hb) (Nat.lt_irrefl _)
   ·rw [Ids.set_other hne] at hb
    rw [Ids.set_other hne'] at hb';exact h.inj id id' r r' b (hR id r hne hi) (hR id' r' hne' hi') hb hb'
 ·exact Nat.lt_of_not_le fun hle=>hb (hO b hle)
theorem RowsOk.turn {w' : World} {id : Nat} {r0 row : Row} {b0 : Nat} (h : RowsOk P Γ Own σ S w R) (hid : R id = some r0) (hb0 : Loc.has (σ id) b0)
  (hw : ∀ b,b ≠ b0 → w'.heap[b]? = w.heap[b]?) (hS : Same w w') (hr : (∀ b,S b → w'.heap[b]? = w.heap[b]?) → RowOk P Γ σ S w' id row) :
  RowsOk P Γ Own σ S w' (updR [(id,some row)] R)∧Ext Own σ S w σ S w':=by
 obtain ⟨hnS,hOwn⟩:=h.apart id r0 b0 hid hb0;have hkeep : ∀ b,S b → w'.heap[b]? = w.heap[b]?:=fun b hb => hw b (by rintro rfl; exact hnS hb)
 have hR : ∀ j r,j ≠ id → updR [(id,some row)] R j = some r → R j = some r:=fun j r hne hi => by simpa [updR,Ne.symm hne] using hi
 have hR' : ∀ j r,updR [(id,some row)] R j = some r → ∃ r',R j = some r':=fun j r hi => by
  by_cases hne : j = id
  ·subst hne; exact ⟨r0,hid⟩
  ·exact ⟨r,hR j r hne hi⟩
 refine ⟨⟨fun j r hi => ?_,fun j r b hi hb => ?_,fun j j' r r' b hi hi' hb hb' => ?_,fun b hb => Nat.lt_of_lt_of_le (h.old b hb) hS.size⟩,Ids.le_refl σ,fun _ h => h,hkeep,fun b hb => hw b ?_,hS,fun _ h => .inl h⟩
 ·by_cases hne : j = id
  ·subst hne
   simp [updR] at hi;subst hi; exact hr hkeep
  ·have hi':=hR j r hne hi
   refine (h.ok j r hi').mono (Ids.le_refl σ) (fun _ h => h) hkeep hS.size fun b hb => hw b ?_
   rintro rfl;exact hne (h.inj j id r r0 b hi' hid hb hb0)
 ·obtain ⟨r',hi'⟩:=hR' j r hi
  exact h.apart j r' b hi' hb
 ·obtain ⟨q,hq⟩:=hR' j r hi
  obtain ⟨q',hq'⟩:=hR' j' r' hi';exact h.inj j j' q q' b hq hq' hb hb'
 ·rintro rfl; exact hb hOwn
def Locked (σ : Ids) (S : Nat → Prop) (R : Nat → Option Row) (ids : List Nat) (b : Nat) : Prop:=S b ∨ ∃ id ∈ ids,(∃ r,R id = some r)∧Loc.has (σ id) b
theorem updR_gone (ids : List Nat) (R : Nat → Option Row) (k : Nat) : updR (gone ids) R k = if k ∈ ids then none else R k:=by
 induction ids with
 | nil => simp [gone,updR]
 | cons i ids ih =>
  simp only [gone,List.map_cons,updR] at ih ⊢;by_cases h : i = k
  ·simp [h]
  ·simp only [h,if_false,ih,List.mem_cons,Ne.symm h,false_or]
theorem RowsOk.lock (h : RowsOk P Γ Own σ S w R) (ids : List Nat) :
  RowsOk P Γ Own σ (Locked σ S R ids) w (updR (gone ids) R)∧Ext Own σ S w σ (Locked σ S R ids) w:=by
 have hR : ∀ id r,updR (gone ids) R id = some r → R id = some r∧id ∉ ids:=fun id r hi => by
  rw [updR_gone] at hi;split at hi
  ·cases hi
  ·exact ⟨hi,by assumption⟩
 have hext : Ext Own σ S w σ (Locked σ S R ids) w:=⟨Ids.le_refl σ,fun _ h => .inl h,fun _ _ => rfl,fun _ _ => rfl,Same.refl w,fun b hb => hb.elim .inl fun ⟨id,_,⟨r,hr⟩,hb⟩ => .inr (h.apart id r b hr hb).2⟩
 refine ⟨⟨fun id r hi => (h.ok id r (hR id r hi).1).mono (Ids.le_refl σ) (fun _ h => .inl h) (fun _ _ => rfl) (Nat.le_refl _) fun _ _ => rfl,fun id r b hi hb => ?_,
  fun id id' r r' b hi hi' => h.inj id id' r r' b (hR id r hi).1 (hR id' r' hi').1,fun b hb => ?_⟩,hext⟩
 ·obtain ⟨hi1,hi2⟩:=hR id r hi
  obtain ⟨h1,h2⟩:=h.apart id r b hi1 hb;refine ⟨?_,h2⟩;rintro (h3 | ⟨j,hj,⟨q,hq⟩,hjb⟩)
  ·exact h1 h3
  ·exact hi2 (h.inj id j r q b hi1 hq hb hjb ▸ hj)
 ·rcases hb with hb | ⟨j,_,⟨q,hq⟩,hjb⟩
  ·exact h.old b hb
  ·exact h.lt hq hjb
theorem plain1_cells {x : AV} (h : x.plain1 = true) : x.cells = [x]:=by cases x <;> simp_all [AV.plain1,AV.cells]
theorem plain1_scalar {x : AV} (h : x.plain1 = true) : x.scalar = true:=by cases x <;> simp_all [AV.plain1,AV.scalar]
theorem plain1_rel {x : AV} (h : x.plain1 = true) : RelI S w x.toVal x:=by
 cases x <;> simp [AV.plain1] at h
 ·exact .int _ _
 ·exact .bool _
theorem plain1_val {x : AV} {v : Value} (h : x.plain1 = true) (hv : RelV σ S w v x) : v = x.toVal:=by
 cases x <;> simp [AV.plain1] at h
 ·cases hv with | imm hv => cases hv; rfl
 ·cases hv with | imm hv => cases hv; rfl
theorem mp_val {x : AV} {v : Value} (h : x.mpVal = true) (hv : RelV σ S w v x) : v = x.toVal2:=by
 cases x with
 | int k n => exact plain1_val (x:=.int k n) rfl hv
 | bool b => exact plain1_val (x:=.bool b) rfl hv
 | agg cs =>
  have hp : cs.all AV.plain1 = true:=h;have key : ∀ (vs : Array Value),vs.size = cs.length → (∀ (i : Nat) u c,vs[i]? = some u → cs[i]? = some c → RelV σ S w u c) → Value.agg vs = AV.toVal2 (.agg cs):=fun vs hl hr => by
   simp only [AV.toVal2,Value.agg.injEq];apply Array.ext_getElem?;intro i;by_cases hi : i < cs.length
   ·have h1:=hr i vs[i] cs[i] (Array.getElem?_eq_getElem (by omega)) (List.getElem?_eq_getElem hi)
    have h2:=plain1_val (List.all_eq_true.1 hp _ (List.getElem_mem hi)) h1;rw [Array.getElem?_eq_getElem (by omega),h2]
    simp [hi]
   ·rw [Array.getElem?_eq_none (by omega),Array.getElem?_eq_none (by simp; omega)]
  cases hv with
  | imm hv => cases hv with | agg vs _ hl hr => exact key vs hl fun i u c hu hc => .imm (hr i u c hu hc)
  | agg vs _ hl hr => exact key vs hl hr
 | func f cs =>
  have hc : cs = []:=by simpa [AV.mpVal] using h
  subst hc;cases hv with
  | imm hv =>
   cases hv with
   | func _ vs _ hl hr =>
    have : vs = #[]:=Array.eq_empty_of_size_eq_zero (by simpa using hl)
    subst this; rfl
  | func _ vs _ hl hr =>
   have : vs = #[]:=Array.eq_empty_of_size_eq_zero (by simpa using hl)
   subst this; rfl
 | _ => simp [AV.mpVal,AV.plain1] at h
theorem mp_rel {x : AV} (h : x.mpVal = true) : RelI S w x.toVal2 x:=by
 cases x with
 | int k n => exact .int _ _
 | bool b => exact .bool _
 | agg cs =>
  have hp : cs.all AV.plain1 = true:=h;refine .agg _ _ (by simp) fun i u c hu hc => ?_
  simp [hc] at hu;subst hu;exact plain1_rel (List.all_eq_true.1 hp _ (List.mem_of_getElem? hc))
 | func f cs =>
  have hc : cs = []:=by simpa [AV.mpVal] using h
  subst hc;exact .func f #[] [] rfl fun i u c hu => by simp at hu
 | _ => simp [AV.mpVal,AV.plain1] at h
theorem mp_one {x : AV} (h : x.mpVal = true) {v : Value} (hr : RelV σ S w v x) : RelI S w v x:=by
 rw [mp_val h hr]; exact mp_rel h
theorem flat_plain {xs : List AV} (h : ∀ y ∈ xs,y.plain1 = true) : flat xs = xs:=by
 induction xs with
 | nil => rfl
 | cons x xs ih =>
  simp only [flat,List.flatMap_cons] at ih ⊢;rw [plain1_cells (h x (by simp)),ih fun y hy => h y (by simp [hy])]
  rfl
theorem flat_length2 {sz : Nat} {es : List AV} (h : ∀ e ∈ es,e.cells.length = sz) : (flat es).length = es.length * sz:=by
 induction es with
 | nil => simp [flat]
 | cons e es ih =>
  have h1:=h e (List.mem_cons_self ..);have h2:=ih fun e he => h e (List.mem_cons_of_mem _ he)
  simp only [flat,List.flatMap_cons,List.length_append,List.length_cons] at h2 ⊢;rw [h1,h2,Nat.add_mul]; omega
theorem flat_get2 {sz : Nat} {es : List AV} (h : ∀ e ∈ es,e.cells.length = sz) {i j : Nat} {e : AV} (he : es[i]? = some e) (hj : j < sz) : (flat es)[i * sz + j]? = e.cells[j]?:=by
 induction es generalizing i with
 | nil => simp at he
 | cons x es ih =>
  have hx:=h x (List.mem_cons_self ..);have h2 : ∀ e ∈ es,e.cells.length = sz:=fun e he => h e (List.mem_cons_of_mem _ he)
  cases i with
  | zero =>
   simp at he; subst he
   simp only [flat,List.flatMap_cons,Nat.zero_mul,Nat.zero_add];rw [List.getElem?_append_left (by omega)]
  | succ i =>
   simp only [List.getElem?_cons_succ] at he;have:=ih h2 he;simp only [flat,List.flatMap_cons] at this ⊢;rw [List.getElem?_append_right (by rw [hx,Nat.add_mul]; omega),hx,← this]
   congr 1
   rw [Nat.add_mul]; omega
theorem tabFe_cells (e : AV) : e.tabFe.cells = e.cells.map AV.tabFz:=by cases e <;> rfl
theorem flat_tabFe (es : List AV) : flat (es.map AV.tabFe) = (flat es).map AV.tabFz:=by
 induction es with
 | nil => rfl
 | cons e es ih =>
  simp only [flat,List.map_cons,List.flatMap_cons,List.map_append] at ih ⊢;rw [tabFe_cells,ih]
theorem TabCell.fz {v : Value} {x : AV} {o : Option (Nat × Nat)} (h : TabCell w v x o) (hS : ∀ b' c',o = some (b',c') → S b') : RelI S w v x.tabFz∧x.tabFz.scalar = true:=by
 rcases h with ⟨h1,h2,rfl⟩ | ⟨xs,rfl,h2,⟨rfl,rfl,ad,rfl⟩ | ⟨b',c',cs,t,rfl,rfl,h3,h4,h5,h6,h7⟩⟩
 ·have e : x.tabFz = x:=by cases x <;> simp [AV.plain1] at h1 <;> rfl
  rw [e];exact ⟨plain1_rel h1,plain1_scalar h1⟩
 ·exact ⟨.list0 _ _ _,rfl⟩
 ·refine ⟨.list b' 0 1 c' xs (fun j=>cs.getD j undef) (hS _ _ rfl) h4 (fun e he => ⟨by rw [plain1_cells (h2 e he)]; rfl,fun c hc => ?_⟩) (fun i hi => ?_) (fun i c hc => ?_),rfl⟩
  ·rw [plain1_cells (h2 e he)] at hc
   rw [List.mem_singleton.1 hc];exact plain1_scalar (h2 e he)
  ·rw [Nat.zero_add,cell_of_row w b' _ cs t (0,0) h3]
   have : i < cs.size:=by omega
   simp [this]
  ·rw [flat_plain h2] at hc
   have:=h7 i c hc;have e1 : cs.getD i undef = c.toVal:=by simp [Array.getD_eq_getD_getElem?,this]
   show RelI S w (cs.getD i undef) c
   rw [e1];exact plain1_rel (h2 c (List.mem_of_getElem? hc))
theorem TabAt.cell {l : Loc} {sz : Nat} {es : List AV} {b c : Nat} {inn : List (Option (Nat × Nat))} {cs : Array Value} (hl : inn.length = es.length * sz) (h7 : ∀ e ∈ es,e.cells.length = sz)
  (h : ∀ (i : Nat) x o,(flat es)[i]? = some x → inn[i]? = some o → ∃ v,cs[i]? = some v∧TabCell w v x o) {i : Nat} {x : AV} (hx : (flat es)[i]? = some x) :
  ∃ o v,inn[i]? = some o∧cs[i]? = some v∧TabCell w v x o:=by
 have hi:=(List.getElem?_eq_some_iff.1 hx).1;rw [flat_length2 h7] at hi;obtain ⟨v,hv,hc⟩:=h i x inn[i] hx (List.getElem?_eq_getElem (by omega))
 exact ⟨_,v,List.getElem?_eq_getElem (by omega),hv,hc⟩
theorem TabAt.list {l : Loc} {sz : Nat} {es : List AV} (h : TabAt w l sz es) (hS : ∀ b ∈ l.blocks,S b) : ∃ b c inn,l = .tab b sz es.length c inn∧RelI S w (.slice (some ⟨b,0,none⟩) es.length c) (.list sz (es.map AV.tabFe)):=by
 obtain ⟨b,c,inn,cs,t,rfl,h2,h3,h4,h5,h6,h7,h8,h9,h10⟩:=h;have hcell:=fun i x hx => TabAt.cell (w:=w) (l:=.tab b sz es.length c inn) (b:=b) (c:=c) h8 h7 h10 (i:=i) (x:=x) hx
 have hin : ∀ {i : Nat} {b' c' : Nat},inn[i]? = some (some (b',c')) → S b':=fun ho=>hS _ (by
  simp only [Loc.blocks,List.mem_cons,List.mem_filterMap];exact .inr ⟨_,List.mem_of_getElem? ho,rfl⟩)
 refine ⟨b,c,inn,rfl,?_⟩;have key : RelI S w (.slice (some ⟨b,0,none⟩) (es.map AV.tabFe).length c) (.list sz (es.map AV.tabFe)):=by
  refine .list b 0 sz c _ (fun i=>cs.getD i undef) (hS b (by simp [Loc.blocks])) (by simpa using h4) (fun e he => ?_) (fun i hi => ?_) (fun i x hx => ?_)
  ·obtain ⟨e0,he0,rfl⟩:=List.mem_map.1 he
   obtain ⟨i,hi,rfl⟩:=List.getElem_of_mem he0;refine ⟨by rw [tabFe_cells,List.length_map]; exact h7 _ he0,fun y hy => ?_⟩
   rw [tabFe_cells] at hy;obtain ⟨x,hx,rfl⟩:=List.mem_map.1 hy;obtain ⟨j,hj,rfl⟩:=List.getElem_of_mem hx;have hj' : j < sz:=by rw [← h7 _ he0]; exact hj
   have hg:=flat_get2 h7 (List.getElem?_eq_getElem hi) hj';rw [List.getElem?_eq_getElem hj] at hg;obtain ⟨o,v,ho,_,hc⟩:=hcell _ _ hg;exact (hc.fz (S:=S) fun b' c' e => hin (by rw [ho,e])).2
  ·rw [Nat.zero_add,cell_of_row w b _ cs t (0,0) h2]
   rw [List.length_map] at hi;have : i < cs.size:=Nat.lt_of_lt_of_le hi (Nat.le_trans (Nat.mul_le_mul_right sz h4) h3);simp [this]
  ·rw [flat_tabFe,List.getElem?_map] at hx
   simp only [Option.map_eq_some_iff] at hx;obtain ⟨x0,hx0,rfl⟩:=hx;obtain ⟨o,v,ho,hv,hc⟩:=hcell _ _ hx0;have e1 : cs.getD i undef = v:=by simp [Array.getD_eq_getD_getElem?,hv]
   show RelI S w (cs.getD i undef) _
   rw [e1];exact (hc.fz fun b' c' e => hin (by rw [ho,e])).1
 rwa [List.length_map] at key
theorem TabCell.take {v : Value} {q len : Nat} {xs : List AV} {o : Option (Nat × Nat)} (h : TabCell w v (.own q xs) o) (hl : len≤xs.length) (hS : ∀ b' c',o = some (b',c') → S b') :
  q = 1∧(∀ y ∈ xs,y.plain1 = true)∧∀ b' c',o = some (b',c') → RelI S w (.slice (some ⟨b',0,none⟩) len c') (.list 1 (xs.take len)):=by
 rcases h with ⟨h1,_⟩ | ⟨ys,hy,h2,h3⟩
 ·simp [AV.plain1] at h1
 ·simp only [AV.own.injEq] at hy
  obtain ⟨rfl,rfl⟩:=hy;refine ⟨rfl,h2,fun b' c' ho => ?_⟩
  subst ho;rcases h3 with ⟨h3,_⟩ | ⟨b1,c1,cs,t,q1,_,q3,q4,q5,q6,q7⟩
  ·cases h3
  ·cases q1
   have hlen : (xs.take len).length = len:=by simp; omega
   have hp : ∀ y ∈ xs.take len,y.plain1 = true:=fun y hy => h2 y (List.mem_of_mem_take hy)
   have key : RelI S w (.slice (some ⟨b',0,none⟩) (xs.take len).length c') (.list 1 (xs.take len)):=by
    refine .list b' 0 1 c' _ (fun j=>cs.getD j undef) (hS _ _ rfl) (by omega) (fun e he => ⟨by rw [plain1_cells (hp e he)]; rfl,fun c hc => ?_⟩) (fun i hi => ?_) (fun i c hc => ?_)
    ·rw [plain1_cells (hp e he)] at hc
     rw [List.mem_singleton.1 hc];exact plain1_scalar (hp e he)
    ·rw [Nat.zero_add,cell_of_row w b' _ cs t (0,0) q3]
     have : i < cs.size:=by omega
     simp [this]
    ·rw [flat_plain hp] at hc
     have hc' : xs[i]? = some c:=by
      rw [List.getElem?_take] at hc;split at hc
      ·exact hc
      ·cases hc
     have:=q7 i c hc';have e1 : cs.getD i undef = c.toVal:=by simp [Array.getD_eq_getD_getElem?,this]
     show RelI S w (cs.getD i undef) c
     rw [e1];exact plain1_rel (hp c (List.mem_of_getElem? hc))
   rwa [hlen] at key
theorem tabCells_get (id : Nat) : ∀ (cs : List AV) (p i : Nat) (x : AV),cs[i]? = some x → (tabCells id p cs)[i]? = some (match x with | .own _ xs => .inS id (p + i) xs.length | x => x)
 | [],_,_,_,h => by simp at h
 | c :: cs,p,0,x,h => by
  simp at h; subst h
  cases c <;> rfl
 | c :: cs,p,i + 1,x,h => by
  have ih:=tabCells_get id cs (p + 1) i x (by simpa using h)
  rw [show p + 1 + i = p + (i + 1) by omega] at ih
  cases c <;> exact ih
theorem tabCells_len (id : Nat) : ∀ (cs : List AV) (p : Nat),(tabCells id p cs).length = cs.length
 | [],_ => rfl
 | c :: cs,p => by
  have ih:=tabCells_len id cs (p + 1);cases c <;> simp [tabCells,ih]
theorem tabSet_spec {c : AV} (hc : c.cells = [c]) : ∀ (es : List AV) (p : Nat),(tabSet p c es).length = es.length∧flat (tabSet p c es) = (flat es).set p c∧∀ sz,(∀ e ∈ es,e.cells.length = sz) → ∀ e ∈ tabSet p c es,e.cells.length = sz
 | [],p => by simp [tabSet,flat]
 | e :: es,p => by
  obtain ⟨i1,i2,i3⟩:=tabSet_spec hc es (p - e.cells.length);unfold tabSet;split
  ·rename_i hp
   have hcells : (tabSet1 p c e).cells = e.cells.set p c:=by
    cases e;case agg cs => rfl
    all_goals
     simp only [AV.cells,List.length_singleton] at hp;have hp0 : p = 0:=by omega
     subst hp0;exact hc
   refine ⟨by simp,?_,fun sz h y hy => ?_⟩
   ·simp only [flat,List.flatMap_cons]
    rw [hcells,List.set_append,if_pos hp]
   ·rcases List.mem_cons.1 hy with rfl | hy
    ·rw [hcells,List.length_set]; exact h e (by simp)
    ·exact h y (by simp [hy])
  ·rename_i hp
   refine ⟨by simp [i1],?_,fun sz h y hy => ?_⟩
   ·simp only [flat,List.flatMap_cons] at i2 ⊢
    rw [i2,List.set_append,if_neg hp]
   ·rcases List.mem_cons.1 hy with rfl | hy
    ·exact h _ (by simp)
    ·exact i3 sz (fun e he => h e (by simp [he])) y hy
theorem inn_inj : ∀ {inn : List (Option (Nat × Nat))} {i p b c c' : Nat},(inn.filterMap (fun o=>o.map (·.1))).Nodup → inn[i]? = some (some (b,c)) → inn[p]? = some (some (b,c')) → i = p
 | [],i,_,_,_,_,_,hi,_ => by simp at hi
 | o :: inn,i,p,b,c,c',h,hi,hp => by
  have hmem : ∀ {k c1 : Nat},inn[k]? = some (some (b,c1)) → b ∈ inn.filterMap (fun o=>o.map (·.1)):=fun hk=>List.mem_filterMap.2 ⟨_,List.mem_of_getElem? hk,rfl⟩
  cases o with
  | none =>
   simp only [List.filterMap_cons,Option.map_none] at h;cases i with
   | zero => simp at hi
   | succ i =>
    cases p with
    | zero => simp at hp
    | succ p => simp at hi hp; rw [inn_inj h hi hp]
  | some q =>
   simp only [List.filterMap_cons,Option.map_some,List.nodup_cons] at h;cases i with
   | zero =>
    cases p with
    | zero => rfl
    | succ p =>
     simp at hi hp;subst hi;exact absurd (hmem hp) h.1
   | succ i =>
    cases p with
    | zero =>
     simp at hi hp;subst hp;exact absurd (hmem hi) h.1
    | succ p => simp at hi hp; rw [inn_inj h.2 hi hp]
theorem TabCell.keep {w' : World} {v : Value} {x : AV} {o : Option (Nat × Nat)} (h : TabCell w v x o) (hb : ∀ b' c',o = some (b',c') → w'.heap[b']? = w.heap[b']?) : TabCell w' v x o:=by
 rcases h with h | ⟨xs,q1,q2,q3 | ⟨b',c',cs',t',r1,r2,r3,r4⟩⟩
 ·exact .inl h
 ·exact .inr ⟨xs,q1,q2,.inl q3⟩
 ·exact .inr ⟨xs,q1,q2,.inr ⟨b',c',cs',t',r1,r2,by rw [hb b' c' r1]; exact r3,r4⟩⟩
theorem Locked.mono {ids ids' : List Nat} (h : ∀ i ∈ ids,i ∈ ids') {b : Nat} (hb : Locked σ S R ids b) : Locked σ S R ids' b:=by
 rcases hb with hb | ⟨id,hid,rest⟩
 ·exact .inl hb
 ·exact .inr ⟨id,h id hid,rest⟩
theorem RelI.lockMono {ids ids' : List Nat} (h : ∀ i ∈ ids,i ∈ ids') {v : Value} {a : AV} (hr : RelI (Locked σ S R ids) w v a) : RelI (Locked σ S R ids') w v a :=
 hr.mono (fun _ hb => hb.mono h) fun _ _ => rfl
theorem frz_scalar {d : Nat} {a a' : AV} {ids : List Nat} (h : frz R d a = some (a',ids)) (hs : a.scalar = true) : a'.scalar = true:=by
 cases d with
 | zero => simp [frz] at h
 | succ d =>
  unfold frz at h;split at h;all_goals first
   | (simp only [Option.some.injEq,Prod.mk.injEq] at h; obtain ⟨rfl,rfl⟩:=h; first | exact hs | rfl)
   | (simp [AV.scalar] at hs; done)
   | skip
  ·split at h
   ·split at h
    ·simp only [Option.some.injEq,Prod.mk.injEq] at h; obtain ⟨rfl,rfl⟩:=h; rfl
    ·cases h
   ·cases h
  ·split at h
   ·split at h
    ·split at h
     ·simp only [Option.some.injEq,Prod.mk.injEq] at h; obtain ⟨rfl,rfl⟩:=h; rfl
     ·cases h
    ·cases h
   ·split at h
    ·simp only [Option.some.injEq,Prod.mk.injEq] at h; obtain ⟨rfl,rfl⟩:=h; rfl
    ·cases h
   ·cases h
  ·split at h
   ·split at h
    ·simp only [Option.some.injEq,Prod.mk.injEq] at h; obtain ⟨rfl,rfl⟩:=h; rfl
    ·cases h
   ·cases h
  ·split at h
   ·split at h
    ·split at h
     ·simp only [Option.some.injEq,Prod.mk.injEq] at h; obtain ⟨rfl,rfl⟩:=h; rfl
     ·cases h
    ·cases h
   ·cases h
  ·split at h
   ·simp only [Option.some.injEq,Prod.mk.injEq] at h; obtain ⟨rfl,rfl⟩:=h; rfl
   ·cases h
  ·split at h
   ·simp only [Option.some.injEq,Prod.mk.injEq] at h; obtain ⟨rfl,rfl⟩:=h; rfl
   ·cases h
  ·split at h
   ·simp only [Option.some.injEq,Prod.mk.injEq] at h; obtain ⟨rfl,rfl⟩:=h; rfl
   ·cases h
  ·cases h
theorem frzL_spec {f : AV → Option (AV × List Nat)} : ∀ {cs cs' : List AV} {ids : List Nat},frzL f cs = some (cs',ids) →
  cs'.length = cs.length∧∀ (i : Nat) c c',cs[i]? = some c → cs'[i]? = some c' → ∃ j,f c = some (c',j)∧∀ x ∈ j,x ∈ ids
 | [],cs',ids,h => by simp [frzL] at h; obtain ⟨rfl,rfl⟩:=h; simp
 | c :: r,cs',ids,h => by
  simp only [frzL] at h;split at h
  ·cases h
  ·rename_i c1 i1 hc
   split at h
   ·cases h
   ·rename_i r1 j1 hr
    simp only [Option.some.injEq,Prod.mk.injEq] at h;obtain ⟨rfl,rfl⟩:=h;obtain ⟨h1,h2⟩:=frzL_spec hr;refine ⟨by simp [h1],fun i x x' hx hx' => ?_⟩
    cases i with
    | zero => simp at hx hx'; subst hx hx'; exact ⟨i1,hc,fun x hx => List.mem_append_left _ hx⟩
    | succ i =>
     simp at hx hx';obtain ⟨j,hj,hm⟩:=h2 i x x' hx hx';exact ⟨j,hj,fun x hx => List.mem_append_right _ (hm x hx)⟩
theorem RelI.of_row {id off len sz cap : Nat} {a : Addr} {es : List AV} (hR : RowsOk P Γ Own σ S w R) (hr : R id = some (.arr sz es)) (hl : off + len≤es.length)
  (h : RelV σ S w (.slice (some a) len cap) (.slice id off len)) : RelI (Locked σ S R [id]) w (.slice (some a) len cap) (.list sz ((es.drop off).take len)):=by
 by_cases hz : len = 0
 ·subst hz; simp only [List.take_zero]; exact .list0 _ _ _
 ·have hlen : ((es.drop off).take len).length = len:=by simp; omega
  have hk:=hR.ok id _ hr;cases h with
  | imm h => cases h
  | sliceV id a h => exact absurd rfl hz
  | slice id off len cap b' sz' n' c' a h h1 h2 h3 h4 =>
   rcases hk with ⟨hk,_⟩ | ⟨b,c,cs,t,hk,hh,hs,hn,_,hp,he,hf⟩
   ·rw [hk] at h; cases h
   ·have e:=hk.symm.trans h
    simp only [Option.some.injEq,Loc.row.injEq] at e;obtain ⟨rfl,rfl,rfl,rfl⟩:=e;obtain rfl:=h4 (by omega)
    have hee : ∀ e ∈ (es.drop off).take len,Elem sz e:=fun e hm => he e (List.mem_of_mem_drop (List.mem_of_mem_take hm))
    have key : RelI (Locked σ S R [id]) w (.slice (some ⟨b,off * sz,none⟩) ((es.drop off).take len).length cap) (.list sz ((es.drop off).take len)):=by
     refine .list b (off * sz) sz cap _ (fun i=>cs.getD (off * sz + i) undef) (.inr ⟨id,by simp,⟨_,hr⟩,(has_row hk)⟩) (by omega) hee (fun i hi => ?_) (fun i x hx => ?_)
     ·rw [cell_of_row w b _ cs t (0,0) hh]
      rw [hlen] at hi;have : off * sz + i < cs.size:=by
       have : off * sz + len * sz≤c * sz:=by rw [← Nat.add_mul]; exact Nat.mul_le_mul_right _ (by omega)
       omega
      simp [this]
     ·have hx' : (flat es)[off * sz + i]? = some x:=by
       have h1:=hx;rw [flat_take (fun e hm => he e (List.mem_of_mem_drop hm)),flat_drop he] at h1
       have:=List.getElem?_take (l:=List.drop (off * sz) (flat es)) (i:=len * sz) (j:=i);rw [this] at h1;split at h1
       ·rw [List.getElem?_drop] at h1; exact h1
       ·cases h1
      obtain ⟨v,hv,hrel⟩:=hf _ x hx';have : cs.getD (off * sz + i) undef = v:=by simp [Array.getD_eq_getD_getElem?,hv]
      rw [this];exact hrel.mono (fun _ h => .inl h) fun _ _ => rfl
    rw [hlen] at key;exact key
theorem frz_sound (hR : RowsOk P Γ Own σ S w R) : ∀ (d : Nat) {a a' : AV} {ids : List Nat} {v : Value},frz R d a = some (a',ids) → RelV σ S w v a → RelI (Locked σ S R ids) w v a'
 | 0,a,a',ids,v,h,_ => by simp [frz] at h
 | d + 1,a,a',ids,v,h,hv => by
  have imm : ∀ {a : AV},RelI S w v a → RelI (Locked σ S R []) w v a:=fun h=>h.mono (fun _ h => .inl h) fun _ _ => rfl
  have many : ∀ {cs cs' : List AV} {ids : List Nat} {vs : Array Value},frzL (frz R d) cs = some (cs',ids) → vs.size = cs.length →
    (∀ (i : Nat) v c,vs[i]? = some v → cs[i]? = some c → RelV σ S w v c) →
    vs.size = cs'.length∧∀ (i : Nat) v c,vs[i]? = some v → cs'[i]? = some c → RelI (Locked σ S R ids) w v c:=by
   intro cs cs' ids vs hf hl hr;obtain ⟨h1,h2⟩:=frzL_spec hf;refine ⟨by omega,fun i v c hi hc => ?_⟩
   have hlt : i < cs.length:=by
    have:=(Array.getElem?_eq_some_iff.1 hi).1;omega
   obtain ⟨j,hj,hm⟩:=h2 i cs[i] c (List.getElem?_eq_getElem hlt) hc;exact (frz_sound hR d hj (hr i v _ hi (List.getElem?_eq_getElem hlt))).lockMono hm
  cases a with
  | int k n => simp [frz] at h; obtain ⟨rfl,rfl⟩:=h; cases hv; exact imm ‹_›
  | bool b => simp [frz] at h; obtain ⟨rfl,rfl⟩:=h; cases hv; exact imm ‹_›
  | any => simp [frz] at h; obtain ⟨rfl,rfl⟩:=h; exact .any v
  | const u => simp [frz] at h; obtain ⟨rfl,rfl⟩:=h; cases hv; exact imm ‹_›
  | list sz es => simp [frz] at h; obtain ⟨rfl,rfl⟩:=h; cases hv; exact imm ‹_›
  | clip sz es => simp [frz] at h; obtain ⟨rfl,rfl⟩:=h; cases hv with | imm hv => exact imm hv.unclip
  | iptr e o => simp [frz] at h; obtain ⟨rfl,rfl⟩:=h; cases hv; exact imm ‹_›
  | mapI k keys vals => simp [frz] at h; obtain ⟨rfl,rfl⟩:=h; cases hv; exact imm ‹_›
  | yieldT q => simp [frz] at h
  | ylog k xs => simp [frz] at h
  | nilS sz =>
   simp [frz] at h; obtain ⟨rfl,rfl⟩:=h
   cases hv with
   | imm h => cases h; exact .list0 _ _ _
  | slice id off len =>
   simp only [frz] at h;split at h
   ·rename_i sz es hr
    split at h
    ·rename_i hl
     simp only [Option.some.injEq,Prod.mk.injEq] at h; obtain ⟨rfl,rfl⟩:=h
     cases hv with
     | imm h => cases h
     | sliceV id a h => simp only [List.take_zero]; exact .list0 _ _ _
     | slice id off len cap b sz' n c a h h1 h2 h3 h4 => exact RelI.of_row hR hr hl (.slice id off len cap b sz' n c a h h1 h2 h3 h4)
    ·cases h
   ·cases h
  | ptr id idx off =>
   simp only [frz] at h;split at h
   ·rename_i cs hr
    split at h
    ·rename_i hz
     subst hz;split at h
     ·rename_i cs' ids' hf
      simp only [Option.some.injEq,Prod.mk.injEq] at h; obtain ⟨rfl,rfl⟩:=h
      obtain ⟨b,cells,t,hk,hh,hs,hsc,hrel⟩:=hR.ok id _ hr;cases hv with
      | imm h => cases h
      | ptr id idx off b' sz n c h h1 =>
       rw [hk] at h; cases h
       obtain ⟨m1,m2⟩:=many (vs:=cells) hf hs (fun i v c hv hc => by
        obtain ⟨v',hv',hr'⟩:=hrel i c hc;rw [hv] at hv'; cases hv'; exact hr')
       have key : RelI (Locked σ S R (id :: ids')) w (.pointer (some ⟨b,0 + off,none⟩)) (.iptr (.agg cs') off):=by
        refine .iptr b 0 off (.agg cs') (fun i=>cells.getD i undef) (.inr ⟨id,by simp,⟨_,hr⟩,(has_row hk)⟩) ?_ ?_ ?_
        ·intro c hc
         obtain ⟨i,hi,hic⟩:=List.getElem_of_mem hc;obtain ⟨q1,q2⟩:=frzL_spec hf;have hic' : cs'[i]? = some c:=by rw [← hic]; exact List.getElem?_eq_getElem hi
         have hlt : i < cs.length:=by simp [AV.cells] at hi; omega
         obtain ⟨j,hj,_⟩:=q2 i cs[i] c (List.getElem?_eq_getElem hlt) hic';exact frz_scalar hj (hsc _ (List.getElem_mem hlt))
        ·intro i hi
         simp only [AV.cells] at hi;rw [Nat.zero_add,cell_of_row w b _ cells t (0,0) hh];have : i < cells.size:=by omega
         simp [this]
        ·intro i c hc
         simp only [AV.cells] at hc;have : i < cells.size:=by have:=(List.getElem?_eq_some_iff.1 hc).1; omega
         have e : cells.getD i undef = cells[i]:=by simp [this]
         rw [e];exact (m2 i cells[i] c (Array.getElem?_eq_getElem this) hc).lockMono fun x hx => List.mem_cons_of_mem _ hx
       simpa using key
     ·cases h
    ·cases h
   ·rename_i sz es hr
    split at h
    ·rename_i e he
     simp only [Option.some.injEq,Prod.mk.injEq] at h; obtain ⟨rfl,rfl⟩:=h
     cases hv with
     | imm h => cases h
     | ptr id idx off b' sz' n c h h1 =>
      rcases hR.ok id _ hr with ⟨hk,_⟩ | ⟨b,c',cells,t,hk,hh,hs,hn,_,hp,hel,hf⟩
      ·rw [hk] at h; cases h
      ·have q:=hk.symm.trans h
       simp only [Option.some.injEq,Loc.row.injEq] at q;obtain ⟨rfl,rfl,rfl,rfl⟩:=q;have hee:=hel e (List.mem_of_getElem? he);refine .iptr b (idx * sz) off e (fun i=>cells.getD (idx * sz + i) undef) (.inr ⟨id,by simp,⟨_,hr⟩,(has_row hk)⟩) hee.2 (fun i hi => ?_) (fun i x hx => ?_)
       ·rw [cell_of_row w b _ cells t (0,0) hh]
        rw [hee.1] at hi;have : idx * sz + i < cells.size:=by
         have : idx * sz + 1 * sz≤c' * sz:=by rw [← Nat.add_mul]; exact Nat.mul_le_mul_right _ (by omega)
         omega
        simp [this]
       ·have hi : i < sz:=by rw [← hee.1]; exact (List.getElem?_eq_some_iff.1 hx).1
        have:=flat_get hel he hi;rw [hx] at this;obtain ⟨v,hv,hrel⟩:=hf _ x this;have e1 : cells.getD (idx * sz + i) undef = v:=by simp [Array.getD_eq_getD_getElem?,hv]
        rw [e1];exact hrel.mono (fun _ h => .inl h) fun _ _ => rfl
    ·cases h
   ·cases h
  | mapp id =>
   simp only [frz] at h;split at h
   ·rename_i k kv hr
    simp only [Option.some.injEq,Prod.mk.injEq] at h; obtain ⟨rfl,rfl⟩:=h
    cases hv with
    | imm h => cases h
    | mapp _ r hσ =>
     obtain ⟨r',es,clock,hloc,hh,hsz,hes⟩:=hR.ok id _ hr;have q:=hloc.symm.trans hσ;simp only [Option.some.injEq,Loc.map.injEq] at q;subst q;have hz : (kv.map (·.1)).zip (kv.map (·.2)) = kv:=by
      rw [List.zip_map']; simp
     refine .mapI r' k _ _ es clock (.inr ⟨id,by simp,⟨_,hr⟩,has_map hloc⟩) hh (by rw [hz]; exact hsz) (fun i x hx => ?_)
     rw [hz] at hx;obtain ⟨e,h1,h2,h3,h4⟩:=hes i x hx;exact ⟨h4,e,h1,h2,mp_val (σ:=σ) h4 (.imm h3)⟩
   ·cases h
  | ownM ks keys vals => simp [frz] at h
  | borM ks keys vals => simp [frz] at h
  | stampT id => simp [frz] at h
  | itT id => simp [frz] at h
  | agg cs =>
   simp only [frz] at h;split at h
   ·rename_i cs' ids' hf
    simp only [Option.some.injEq,Prod.mk.injEq] at h; obtain ⟨rfl,rfl⟩:=h
    cases hv with
    | imm h =>
     cases h with
     | agg vs _ hl hr =>
      obtain ⟨m1,m2⟩:=many hf hl fun i v c hi hc => .imm (hr i v c hi hc)
      exact .agg vs cs' m1 m2
    | agg vs _ hl hr =>
     obtain ⟨m1,m2⟩:=many hf hl hr;exact .agg vs cs' m1 m2
   ·cases h
  | tuple vs => simp [frz] at h
  | func f cap =>
   simp only [frz] at h;split at h
   ·rename_i cs' ids' hf
    simp only [Option.some.injEq,Prod.mk.injEq] at h; obtain ⟨rfl,rfl⟩:=h
    cases hv with
    | imm h =>
     cases h with
     | func _ vs _ hl hr =>
      obtain ⟨m1,m2⟩:=many hf hl fun i v c hi hc => .imm (hr i v c hi hc)
      exact .func f vs cs' m1 m2
    | func _ vs _ hl hr =>
     obtain ⟨m1,m2⟩:=many hf hl hr;exact .func f vs cs' m1 m2
   ·cases h
  | meth f b =>
   simp only [frz] at h;split at h
   ·rename_i b' ids' hf
    simp only [Option.some.injEq,Prod.mk.injEq] at h; obtain ⟨rfl,rfl⟩:=h
    cases hv with
    | imm h =>
     cases h with
     | meth _ u _ hb => exact .meth f u b' (frz_sound hR d hf (.imm hb))
    | meth _ u _ hb => exact .meth f u b' (frz_sound hR d hf hb)
   ·cases h
  | own sz es => simp [frz] at h
  | bor cs => simp [frz] at h
  | borS sz es => simp [frz] at h
  | tabP id idx off => simp [frz] at h
  | inP id p j => simp [frz] at h
  | ownT sz es => simp [frz] at h
  | tabS id len =>
   simp only [frz] at h;split at h
   ·rename_i sz es hr
    split at h
    ·rename_i hl
     simp only [Option.some.injEq,Prod.mk.injEq] at h; obtain ⟨rfl,rfl⟩:=h
     cases hv with
     | imm h => cases h
     | tabV _ ad hσ =>
      have : es = []:=List.eq_nil_of_length_eq_zero hl.symm;subst this;exact .list0 _ _ _
     | tabS _ b sz' n c inn hσ =>
      rcases hR.ok id _ hr with ⟨hk,_⟩ | ⟨l,hk,ht⟩
      ·rw [hk] at hσ; cases hσ
      ·obtain ⟨b1,c1,inn1,e1,hrel⟩:=ht.list (S:=Locked σ S R [id]) fun b hb => .inr ⟨id,by simp,⟨_,hr⟩,⟨l,hk,hb⟩⟩
       rw [hk] at hσ;subst e1;simp only [Option.some.injEq,Loc.tab.injEq] at hσ;obtain ⟨rfl,rfl,rfl,rfl,rfl⟩:=hσ;exact hrel
    ·cases h
   ·cases h
  | inS id p len =>
   simp only [frz] at h;split at h
   ·rename_i sz es hr
    split at h
    ·rename_i q xs hx
     split at h
     ·rename_i hl
      simp only [Option.some.injEq,Prod.mk.injEq] at h; obtain ⟨rfl,rfl⟩:=h
      have hbl : ∀ {l : Loc},σ id = some l → ∀ b ∈ l.blocks,Locked σ S R [id] b:=fun hk b hb => .inr ⟨id,by simp,⟨_,hr⟩,⟨_,hk,hb⟩⟩
      cases hv with
      | imm h => cases h
      | in0 _ _ b sz' n c inn ad hσ h1 => simp only [List.take_zero]; exact .list0 _ _ _
      | inS _ _ _ b sz' n c inn b' c' hσ h1 h2 =>
       rcases hR.ok id _ hr with ⟨hk,_⟩ | ⟨l,hk,ht⟩
       ·rw [hk] at hσ; cases hσ
       ·obtain ⟨b0,c0,inn0,cs,t,rfl,g2,g3,g4,g5,g6,g7,g8,g9,g10⟩:=ht
        rw [hk] at hσ;simp only [Option.some.injEq,Loc.tab.injEq] at hσ;obtain ⟨rfl,rfl,rfl,rfl,rfl⟩:=hσ;obtain ⟨v,_,hc⟩:=g10 p _ _ hx h1;obtain ⟨rfl,_,q3⟩:=hc.take (S:=Locked σ S R [id]) hl fun b1 c1 e => by
         cases e;exact hbl hk _ (by
          simp only [Loc.blocks,List.mem_cons,List.mem_filterMap];exact .inr ⟨_,List.mem_of_getElem? h1,rfl⟩)
        exact q3 _ _ rfl
     ·cases h
    ·cases h
   ·cases h
theorem RelV.int_inv {v : Value} {k : IntKind} {n : Int} (h : RelV σ S w v (.int k n)) : v = .int k n:=by
 cases h with | imm h => cases h; rfl
theorem RelV.bool_inv {v : Value} {b : Bool} (h : RelV σ S w v (.bool b)) : v = .bool b:=by
 cases h with | imm h => cases h; rfl
theorem ofCell_rel (sh : Option Nat) (v : Value) : RelI S w v (ofCell sh v):=by
 unfold ofCell;split
 ·exact .nil _ _
 ·exact .int _ _
 ·exact .bool _
 ·exact .const _
theorem ofCells_rel : ∀ {sh : List (Option Nat)} {vs : List Value} {as : List AV},ofCells sh vs = some as →
  vs.length = as.length∧∀ (i : Nat) v c,vs[i]? = some v → as[i]? = some c → RelI S w v c
 | [],[],as,h => by simp [ofCells] at h; subst h; simp
 | s :: ss,v :: vs,as,h => by
  simp only [ofCells] at h;split at h
  ·rename_i r hr
   simp at h; subst h
   obtain ⟨h1,h2⟩:=ofCells_rel hr;refine ⟨by simp [h1],fun i x c hx hc => ?_⟩
   cases i with
   | zero => simp at hx hc; subst hx hc; exact ofCell_rel s v
   | succ i => simp at hx hc; exact h2 i x c hx hc
  ·cases h
 | [],_ :: _,as,h => by simp [ofCells] at h
 | _ :: _,[],as,h => by simp [ofCells] at h
theorem ofVal_rel {P : Program} {t : TypeId} {v : Value} {a : AV} (h : ofVal P t v = some a) : RelI S w v a:=by
 unfold ofVal at h;split at h
 ·split at h
  ·rename_i cs
   simp only [Option.map_eq_some_iff] at h;obtain ⟨as,h1,rfl⟩:=h;obtain ⟨h2,h3⟩:=ofCells_rel (S:=S) (w:=w) h1;exact .agg cs as (by simpa using h2) fun i x c hx hc => h3 i x c (by simpa using hx) hc
  ·split at h
   ·simp at h; subst h; exact ofCell_rel _ _
   ·cases h
 ·cases h
theorem ofValK_rel {P : Program} {k : Bool} {t : TypeId} {v : Value} {a : AV} (h : ofValK P k t v = some a) : RelI S w v a:=by
 unfold ofValK at h;split at h
 ·split at h
  ·rename_i cs
   simp only [Option.map_eq_some_iff] at h;obtain ⟨as,h1,rfl⟩:=h;obtain ⟨h2,h3⟩:=ofCells_rel (S:=S) (w:=w) h1;exact .agg cs as (by simpa using h2) fun i x c hx hc => h3 i x c (by simpa using hx) hc
  ·cases h
 ·exact ofVal_rel h
theorem nil_val {v : Value} {x : AV} (hv : RelV σ S w v x) (hx : x.isNil = true) : ∃ b,v = .slice b 0 0:=by
 unfold AV.isNil at hx;split at hx
 ·cases hv with | imm hv => cases hv; exact ⟨_,rfl⟩
 ·cases hv with | imm hv => cases hv; exact ⟨_,rfl⟩
 ·cases hx
def GlobOk (S : Nat → Prop) (w : World) : Prop:=∀ g cs,lk g globT = some cs → RelI S w (.pointer (some ⟨g,0,none⟩)) (.iptr (.agg cs) 0)
theorem GlobOk.stay {S S' : Nat → Prop} {w w' : World} (h : GlobOk S w) (hS : ∀ b,S b → S' b) (hw : Stay S w w') : GlobOk S' w':=fun g cs hg => (h g cs hg).stay hS hw
theorem GlobOk.ext {Own : Nat → Prop} {σ σ' : Ids} {S S' : Nat → Prop} {w w' : World} (e : Ext Own σ S w σ' S' w') (h : GlobOk S w) : GlobOk S' w':=fun g cs hg => (h g cs hg).ext e
def TmpsOk (σ : Ids) (S : Nat → Prop) (w : World) (T : Nat → Option AV) (a : Act) : Prop :=
 (∀ t x,T t = some x → RelV σ S w (a.tmps.getD t undef) x)∧GlobOk S w
theorem Yp {P : Program} {t : Option TypeId} {x : Operand} {ao : AOpd} {av : AV} {T : Nat → Option AV} {a : Act} (hT : TmpsOk σ S w T a)
  (h : opd P t x = some ao) (hg : getO T ao = some av) : RelV σ S w (a.eval x) av:=by
 unfold opd at h;split at h
 ·simp at h; subst h; exact hT.1 _ _ hg
 ·simp at h; subst h; simp [getO] at hg; subst hg; exact .imm (.int _ _)
 ·simp at h; subst h; simp [getO] at hg; subst hg; exact .imm (.bool _)
 ·split at h
  ·simp only [Option.map_eq_some_iff] at h
   obtain ⟨av',h1,rfl⟩:=h;simp [getO] at hg; subst hg
   exact .imm (ofVal_rel h1)
  ·split at h
   ·simp at h; subst h; simp [getO] at hg; subst hg; exact .imm (.const _)
   ·cases h
 ·simp at h; subst h; simp [getO] at hg; subst hg
  exact .imm (.func _ #[] [] rfl (by simp))
 ·simp only [Option.map_eq_some_iff] at h
  obtain ⟨cs,h1,rfl⟩:=h;simp [getO] at hg; subst hg
  exact .imm (hT.2 _ _ h1)
end
end Go.Abs
namespace Go.Abs
def OpRuns (P : Program) (a : Act) (o : Oper) (w : World) (v : Value) (w' : World) : Prop :=
 (execOp a.eval o).run P w = .ok (.value v) w' ∨ ((execOp a.eval o).run P w = .ok .skip w'∧v = undef)
theorem OpRuns.wp {P : Program} {a : Act} {o : Oper} {w w' : World} {v : Value} {K : Act → World → Prop} {Q : Exit → Act → World → Prop}
  (h : OpRuns P a o w v w') (hk : K (a.put o.dst v) w') : o.wp P a w K Q:=by
 unfold Oper.wp;rcases h with h | ⟨h,rfl⟩ <;> rw [h] <;> exact hk
section
variable {P : Program} {Γ : Gam} {Own : Nat → Prop} {σ : Ids} {S : Nat → Prop} {w : World} {R : Nat → Option Row} {s : Nat} {T : Nat → Option AV} {a : Act}
theorem binI_run {op : BinOp} {k k' : IntKind} {x y : Int} {v : AV} {t : TypeId} {ox oy : Operand} (h : binI op k x k' y = some v) :
  ∃ u,(do eqGuard op t ox oy (.int k x) (.int k' y); binOp op t (.int k x) (.int k' y) : Sem Value).run P w = .ok u w∧RelI S w u v:=by
 have hg : (eqGuard op t ox oy (.int k x) (.int k' y)).run P w = .ok () w:=by
  unfold eqGuard;cases op <;> simp
 rw [Sem.run_bind,hg,Result.andThen_ok];cases op <;> simp only [binI] at h <;>
  first
   | (
     split at h; · cases h
     simp only [Option.some.injEq] at h; subst h
     rename_i hn;refine ⟨_,?_,.int _ _⟩;simp [binOp,Op.shift,hn]; done)
   | (
     split at h; · cases h
     rename_i hk;have hk : k = k':=Decidable.of_not_not hk;subst hk;first
      | (
       simp only [Option.some.injEq] at h; subst h
       first
        | (refine ⟨_,?_,.int _ _⟩; simp [binOp,Op.intArith,Op.intBits]; done)
        | (refine ⟨_,?_,.bool _⟩; simp [binOp,Op.intCmp]; done))
      | (
       split at h; · cases h
       rename_i hz;simp only [Option.some.injEq] at h; subst h
       refine ⟨_,?_,.int _ _⟩;simp [binOp,Op.intDiv,hz]; done))
theorem mapO_spec {α β : Type} {f : α → Option β} : ∀ {l : List α} {r : List β},mapO f l = some r → r.length = l.length∧∀ (i : Nat) x y,l[i]? = some x → r[i]? = some y → f x = some y
 | [],r,h => by simp [mapO] at h; subst h; simp
 | x :: l,r,h => by
  simp only [mapO] at h;split at h
  ·cases h
  ·rename_i y hy
   split at h
   ·cases h
   ·rename_i ys hys
    simp at h; subst h
    obtain ⟨h1,h2⟩:=mapO_spec hys;refine ⟨by simp [h1],fun i a b ha hb => ?_⟩
    cases i with
    | zero => simp at ha hb; subst ha hb; exact hy
    | succ i => simp at ha hb; exact h2 i a b ha hb
theorem run_loadVar_cells {t : TypeId} {n : Nat} {ag : Bool} {b o : Nat} {f : Nat → Value} (hn : szOf P t = some n) (ha : agOf P t = some ag) (h1 : ag = false → n = 1)
  (hc : ∀ i,i < n → w.cell? ⟨b,o + i,none⟩ = some (f i)) :
  (loadVar t ⟨b,o,none⟩).run P w = .ok (if ag then .agg (((List.range n).map f).toArray) else f 0) w:=by
 simp only [szOf,Option.map_eq_some_iff] at hn;obtain ⟨i,hi,rfl⟩:=hn;simp only [agOf,Option.map_eq_some_iff] at ha;obtain ⟨d,hd,rfl⟩:=ha;have hagg : (isAgg t).run P w = .ok (isAggD d) w:=by
  unfold isAgg;rw [Sem.run_bind,run_underlying hd];cases d <;> rfl
 unfold loadVar;rw [Sem.run_bind,hagg,Result.andThen_ok];cases hag : isAggD d with
 | true =>
  have hl : (loadCells ⟨b,o,none⟩ i.size).run P w = .ok ((List.range i.size).map f).toArray w:=by
   have:=run_loadCells_list (P:=P) w ⟨b,o,none⟩ ((List.range i.size).map f) (fun j v hv => by
    rw [List.getElem?_map] at hv;simp only [Option.map_eq_some_iff] at hv;obtain ⟨x,hx,rfl⟩:=hv;have hlt : j < i.size:=by have:=(List.getElem?_eq_some_iff.1 hx).1; simpa using this
    rw [List.getElem?_range hlt] at hx;cases hx;rw [Addr.add_lit]; exact hc j hlt)
   simpa using this
  simp [sizeOf,typeInfo,hi,hl]
 | false =>
  have : i.size = 1:=h1 hag;have:=hc 0 (by omega)
  simp at this;simp [this]
theorem part_rel {ag : Bool} {off n : Nat} {cs : List AV} {v : AV} {f : Nat → Value} (h : part ag off n cs = some v) (h1 : ag = false → n = 1)
  (hr : ∀ (i : Nat) c,cs[i]? = some c → RelV σ S w (f i) c) : RelV σ S w (if ag then .agg (((List.range n).map fun i=>f (off + i)).toArray) else f off) v:=by
 unfold part at h;split at h
 ·rename_i hl
  split at h
  ·rename_i hag
   subst hag;simp at h; subst h
   simp only [if_true];refine .agg _ _ (by simp; omega) fun i v c hv hc => ?_
   have hi : i < n:=by
    have:=(Array.getElem?_eq_some_iff.1 hv).1;simpa using this
   have e1 : v = f (off + i):=by simpa [hi] using hv.symm
   have e2 : cs[off + i]? = some c:=by
    have:=List.getElem?_take (l:=List.drop off cs) (i:=n) (j:=i);rw [this,if_pos hi,List.getElem?_drop] at hc;exact hc
   rw [e1]; exact hr _ _ e2
  ·rename_i hag
   have : ag = false:=by simpa using hag
   subst this;exact hr _ _ h
 ·cases h
theorem load_run {t : TypeId} {n : Nat} {ag : Bool} {b o off : Nat} {f : Nat → Value} {cs : List AV} {v : AV} (hn : szOf P t = some n) (ha : agOf P t = some ag) (h1 : ag = false → n = 1)
  (h : part ag off n cs = some v) (hc : ∀ i,i < cs.length → w.cell? ⟨b,o + i,none⟩ = some (f i)) (hr : ∀ (i : Nat) c,cs[i]? = some c → RelV σ S w (f i) c) :
  ∃ u,(Instr.loadAt t (.pointer (some ⟨b,o + off,none⟩))).run P w = .ok u w∧RelV σ S w u v:=by
 have hl : off + n≤cs.length:=by
  unfold part at h;split at h
  ·assumption
  ·cases h
 have:=run_loadVar_cells (P:=P) (w:=w) (b:=b) (o:=o + off) (f:=fun i=>f (off + i)) hn ha h1 (fun i hi => by rw [Nat.add_assoc]; exact hc _ (by omega))
 refine ⟨_,?_,part_rel h h1 hr⟩;simp only [Instr.loadAt,Instr.sureAddr,pure_bind,Nat.add_zero] at this ⊢;exact this
theorem load_sound {t : TypeId} {x : Operand} {ao : AOpd} {n : Nat} {ag : Bool} {e : Eff} {o : Oper} (hT : TmpsOk σ S w T a) (hR : RowsOk P Γ Own σ S w R) (ho : o.op = .load t x)
  (hn : szOf P t = some n) (ha : agOf P t = some ag) (h1 : ag = false → n = 1) (hx : opd P none x = some ao) (h : evLoad (getO T) R n ag ao = some e) :
  ∃ v w',OpRuns P a o w v w'∧Step P Γ Own σ S w R s e v w':=by
 unfold evLoad at h;have fin : ∀ {u : Value} {y : AV} {rd : List Nat},(Instr.loadAt t (a.eval x)).run P w = .ok u w → RelV σ S w u y → ∃ v w',OpRuns P a o w v w'∧Step P Γ Own σ S w R s ⟨y,[],rd⟩ v w':=by
  intro u y rd h1 h2;exact ⟨u,w,.inl (by simp [execOp,ho,h1]),Step.read hR h2⟩
 split at h
 ·rename_i y off hg
  split at h
  ·rename_i v hp
   simp only [Option.some.injEq] at h; subst h
   have hv:=Yp hT hx hg;generalize hax : a.eval x = ax at hv;cases hv with
   | imm hv =>
    cases hv with
    | iptr b o' off _ f hb he hc hr =>
     obtain ⟨u,h1,h2⟩:=load_run (P:=P) (σ:=σ) hn ha h1 hp hc fun i c h => .imm (hr i c h)
     exact fin (by rw [hax]; exact h1) h2
  ·cases h
 ·rename_i id idx off hg
  have hv:=Yp hT hx hg;generalize hax : a.eval x = ax at hv;split at h
  ·rename_i sz es hr
   split at h
   ·rename_i y hy
    split at h
    ·rename_i v hp
     simp only [Option.some.injEq] at h; subst h
     cases hv with
     | imm hv => cases hv
     | ptr id idx off b sz' n' c h h1' =>
      rcases hR.ok id _ hr with ⟨hk,_⟩ | ⟨b',c',cells,t',hk,hh,hs,hn',_,hp',hel,hf⟩
      ·rw [hk] at h; cases h
      ·have q:=hk.symm.trans h
       simp only [Option.some.injEq,Loc.row.injEq] at q;obtain ⟨rfl,rfl,rfl,rfl⟩:=q;have hee:=hel y (List.mem_of_getElem? hy);obtain ⟨u,r1,r2⟩:=load_run (P:=P) (σ:=σ) (S:=S) (w:=w) (b:=b') (o:=idx * sz) (off:=off) (f:=fun i=>cells.getD (idx * sz + i) undef) hn ha h1 hp
        (fun i hi => by
         rw [cell_of_row w b' _ cells t' (0,0) hh];rw [hee.1] at hi;have : idx * sz + i < cells.size:=by
          have : idx * sz + 1 * sz≤c' * sz:=by rw [← Nat.add_mul]; exact Nat.mul_le_mul_right _ (by omega)
          omega
         simp [this])
        (fun i c hc => by
         have hi : i < sz:=by rw [← hee.1]; exact (List.getElem?_eq_some_iff.1 hc).1
         have:=flat_get hel hy hi;rw [hc] at this;obtain ⟨v',hv',hrel⟩:=hf _ c this;have e1 : cells.getD (idx * sz + i) undef = v':=by simp [Array.getD_eq_getD_getElem?,hv']
         show RelV σ S w (cells.getD (idx * sz + i) undef) c
         rw [e1]; exact .imm hrel)
       exact fin (by rw [hax]; exact r1) r2
    ·cases h
   ·cases h
  ·rename_i cs hr
   split at h
   ·rename_i hz
    subst hz;split at h
    ·rename_i v hp
     simp only [Option.some.injEq] at h; subst h
     cases hv with
     | imm hv => cases hv
     | ptr id idx off b sz' n' c h h1' =>
      obtain ⟨b',cells,t',hk,hh,hs,hsc,hrel⟩:=hR.ok id _ hr;have q:=hk.symm.trans h;simp only [Option.some.injEq,Loc.row.injEq] at q;obtain ⟨rfl,rfl,rfl,rfl⟩:=q;obtain ⟨u,r1,r2⟩:=load_run (P:=P) (σ:=σ) (S:=S) (w:=w) (b:=b') (o:=0) (off:=off) (f:=fun i=>cells.getD i undef) hn ha h1 hp
       (fun i hi => by
        rw [Nat.zero_add,cell_of_row w b' _ cells t' (0,0) hh];have : i < cells.size:=by omega
        simp [this])
       (fun i c hc => by
        obtain ⟨v',hv',hrel'⟩:=hrel i c hc;have e1 : cells.getD i undef = v':=by simp [Array.getD_eq_getD_getElem?,hv']
        show RelV σ S w (cells.getD i undef) c
        rw [e1]; exact hrel')
      exact fin (by rw [hax]; simpa using r1) r2
    ·cases h
   ·cases h
  ·cases h
 ·rename_i id idx off hg
  have hv:=Yp hT hx hg;generalize hax : a.eval x = ax at hv;split at h
  ·rename_i sz es hr
   split at h
   ·rename_i y hy
    split at h
    ·rename_i v hp
     simp only [Option.some.injEq] at h; subst h
     cases hv with
     | imm hv => cases hv
     | tabP _ _ _ b sz' n' c inn hσ h1' =>
      rcases hR.ok id _ hr with ⟨hk,_⟩ | ⟨l,hk,ht⟩
      ·rw [hk] at hσ; cases hσ
      ·obtain ⟨b0,c0,inn0,cells,t',rfl,g2,g3,g4,g5,g6,g7,g8,g9,g10⟩:=ht
       have hσ':=hσ;rw [hk] at hσ';simp only [Option.some.injEq,Loc.tab.injEq] at hσ';obtain ⟨rfl,rfl,rfl,rfl,rfl⟩:=hσ';have hyl:=g7 y (List.mem_of_getElem? hy);obtain ⟨u,r1,r2⟩:=load_run (P:=P) (σ:=σ) (S:=S) (w:=w) (b:=b0) (o:=idx * sz) (off:=off) (f:=fun i=>cells.getD (idx * sz + i) undef) hn ha h1 hp
        (fun i hi => by
         rw [cell_of_row w b0 _ cells t' (0,0) g2];rw [tabCells_len,hyl] at hi;have : idx * sz + i < cells.size:=by
          have : idx * sz + 1 * sz≤c0 * sz:=by rw [← Nat.add_mul]; exact Nat.mul_le_mul_right _ (by omega)
          omega
         simp [this])
        (fun i c hc => by
         have hi : i < y.cells.length:=by rw [← tabCells_len id y.cells (idx * sz)]; exact (List.getElem?_eq_some_iff.1 hc).1
         have hg1:=tabCells_get id y.cells (idx * sz) i _ (List.getElem?_eq_getElem hi);rw [hc] at hg1;have hfl:=flat_get2 g7 hy (j:=i) (by omega)
         rw [List.getElem?_eq_getElem hi] at hfl;obtain ⟨o',v',ho',hv',htc⟩:=TabAt.cell (w:=w) (l:=.tab b0 sz es.length c0 inn0) (b:=b0) (c:=c0) g8 g7 g10 hfl;have e1 : cells.getD (idx * sz + i) undef = v':=by simp [Array.getD_eq_getD_getElem?,hv']
         show RelV σ S w (cells.getD (idx * sz + i) undef) c
         rw [e1];generalize y.cells[i] = z at *;rcases htc with ⟨q1,q2,rfl⟩ | ⟨xs,rfl,q2,⟨rfl,rfl,ad,rfl⟩ | ⟨b',c',cs',t1,rfl,rfl,q3,q4,q5,q6,q7⟩⟩
         ·have : c = z:=by
           cases z <;> simp [AV.plain1] at q1 <;> simpa using hg1
          rw [this];exact .imm (plain1_rel q1)
         ·simp at hg1; subst hg1
          exact .in0 id _ b0 sz es.length c0 inn0 ad hσ ho'
         ·simp at hg1; subst hg1
          exact .inS id _ xs.length b0 sz es.length c0 inn0 b' c' hσ ho' q4)
       exact fin (by rw [hax]; exact r1) r2
    ·cases h
   ·cases h
  ·cases h
 ·rename_i id p j hg
  have hv:=Yp hT hx hg;generalize hax : a.eval x = ax at hv;split at h
  ·rename_i sz es hr
   split at h
   ·rename_i q xs hxp
    split at h
    ·rename_i y hy
     split at h
     ·rename_i hna
      obtain ⟨rfl,rfl⟩:=hna;simp only [Option.some.injEq] at h; subst h
      cases hv with
      | imm hv => cases hv
      | inP _ _ _ b sz' n' c inn b' c' hσ h1' =>
       rcases hR.ok id _ hr with ⟨hk,_⟩ | ⟨l,hk,ht⟩
       ·rw [hk] at hσ; cases hσ
       ·obtain ⟨b0,c0,inn0,cells,t',rfl,g2,g3,g4,g5,g6,g7,g8,g9,g10⟩:=ht
        rw [hk] at hσ;simp only [Option.some.injEq,Loc.tab.injEq] at hσ;obtain ⟨rfl,rfl,rfl,rfl,rfl⟩:=hσ;obtain ⟨v0,_,htc⟩:=g10 p _ _ hxp h1';rcases htc with ⟨q1,_⟩ | ⟨ys,hys,q2,⟨q3,_⟩ | ⟨b1,c1,cs',t1,q0,_,q3,q4,q5,q6,q7⟩⟩
        ·simp [AV.plain1] at q1
        ·cases q3
        ·cases q0
         simp only [AV.own.injEq] at hys;obtain ⟨rfl,rfl⟩:=hys;have hyp:=q2 y (List.mem_of_getElem? hy);obtain ⟨u,r1,r2⟩:=load_run (P:=P) (σ:=σ) (S:=S) (w:=w) (b:=b') (o:=j) (off:=0) (f:=fun i=>cs'.getD (j + i) undef) (cs:=[y]) (v:=y) hn ha (fun _=>rfl) (by simp [part])
          (fun i hi => by
           have : i = 0:=by simpa using hi
           subst this;rw [cell_of_row w b' _ cs' t1 (0,0) q3];have : j < cs'.size:=(Array.getElem?_eq_some_iff.1 (q7 j y hy)).1;simp [this])
          (fun i c hc => by
           have : i = 0:=by
            have:=(List.getElem?_eq_some_iff.1 hc).1;simpa using this
           subst this;simp at hc; subst hc
           have e1 : cs'.getD (j + 0) undef = y.toVal:=by simp [Array.getD_eq_getD_getElem?,q7 j y hy]
           show RelV σ S w (cs'.getD (j + 0) undef) y
           rw [e1];exact .imm (plain1_rel hyp))
         exact fin (by rw [hax]; simpa using r1) r2
     ·cases h
    ·cases h
   ·cases h
  ·cases h
 ·cases h
theorem run_sliceBound {k : IntKind} {i : Int} {y : Nat} {code : BoundsCode} (h0 : 0≤i) (h1 : i≤y) : (Instr.sliceBound (.int k i) y code).run P w = .ok i.toNat w:=by
 simp [Instr.sliceBound,asIntOf,h0,h1]
theorem run_slice {t el : TypeId} {n : Nat} {ad : Option Addr} {len cap : Nat} {lo hi : Option Value} {l h : Int} (ht : P.underlying t = some (.slice el)) (hn : szOf P el = some n)
  (hl : lo = none∧l = 0 ∨ ∃ k,lo = some (.int k l)) (hh : hi = none∧h = len ∨ ∃ k,hi = some (.int k h)) (h0 : 0≤l) (h1 : l≤h) (h2 : h≤cap) :
  (Instr.sliceAt t (.slice ad len cap) lo hi none).run P w = .ok (.slice (if cap = l.toNat then ad else ad.map (·.add (l.toNat * n))) (h.toNat - l.toNat) (cap - l.toNat)) w:=by
 simp only [szOf,Option.map_eq_some_iff] at hn;obtain ⟨i,hi',rfl⟩:=hn;have hb : (Instr.sliceBounds true len cap lo hi none).run P w = .ok (l.toNat,h.toNat,cap) w:=by
  unfold Instr.sliceBounds;have h0' : 0≤h:=by omega
  have hc : l≤(h.toNat : Int):=by omega
  rcases hl with ⟨rfl,rfl⟩ | ⟨k,rfl⟩ <;> rcases hh with ⟨rfl,rfl⟩ | ⟨k',rfl⟩
  ·simp
  ·simp [run_sliceBound h0' h2]
  ·have : l≤(len : Int):=by simpa using hc
   simp [run_sliceBound h0 this]
  ·simp [run_sliceBound h0' h2,run_sliceBound h0 hc]
 unfold Instr.sliceAt;rw [Sem.run_bind,run_underlying ht,Result.andThen_ok];simp only [Instr.slice];rw [Sem.run_bind,run_underlying ht,Result.andThen_ok];simp only [];rw [Sem.run_bind,hb,Result.andThen_ok];simp [sizeOf,typeInfo,hi']
theorem slice_sound {t el : TypeId} {x : Operand} {lo hi : Option Operand} {ax : AOpd} {alo ahi : Option AOpd} {n : Nat} {e : Eff} {o : Oper} (hT : TmpsOk σ S w T a) (hR : RowsOk P Γ Own σ S w R)
  (ho : o.op = .slice t x lo hi none) (ht : P.underlying t = some (.slice el)) (hn : szOf P el = some n) (hx : opd P (some t) x = some ax)
  (hlo : optOpd P lo = some alo) (hhi : optOpd P hi = some ahi) (h : evSlice (getO T) n R ax alo ahi = some e) :
  ∃ v w',OpRuns P a o w v w'∧Step P Γ Own σ S w R s e v w':=by
 have fin : ∀ {u : Value} {y : AV} {rd : List Nat},(Instr.sliceAt t (a.eval x) (lo.map a.eval) (hi.map a.eval) none).run P w = .ok u w → RelV σ S w u y → ∃ v w',OpRuns P a o w v w'∧Step P Γ Own σ S w R s ⟨y,[],rd⟩ v w':=by
  intro u y rd h1 h2;exact ⟨u,w,.inl (by simp [execOp,ho,h1]),Step.read hR h2⟩
 have opt : ∀ {z : Option Operand} {az : Option AOpd},optOpd P z = some az → (az = none∧z = none) ∨ ∃ y ay,z = some y∧az = some ay∧opd P none y = some ay:=by
  intro z az hz;cases z with
  | none => simp [optOpd] at hz; exact .inl ⟨hz.symm,rfl⟩
  | some y =>
   simp only [optOpd] at hz;split at hz
   ·rename_i ay hy
    simp at hz;exact .inr ⟨y,ay,rfl,hz.symm,hy⟩
   ·cases hz
 unfold evSlice at h;split at h
 ·rename_i v kl l hgx hgl
  have hv:=Yp hT hx hgx;have hlo' : lo.map a.eval = none∧l = 0 ∨ ∃ k,lo.map a.eval = some (.int k l):=by
   rcases opt hlo with ⟨rfl,rfl⟩ | ⟨y,ay,rfl,rfl,hy⟩
   ·simp at hgl; exact .inl ⟨rfl,hgl.2.symm⟩
   ·exact .inr ⟨kl,by simp [(Yp hT hy hgl).int_inv]⟩
  generalize hax : a.eval x = va at hv;split at h
  ·rename_i id off len hh hgh
   split at h
   ·rename_i sz' es hr
    split at h
    ·rename_i hb heq
     split at h
     ·rename_i hc
      obtain ⟨rfl,h0,h1,h2⟩:=hc;simp only [Option.some.injEq] at h; subst h
      have hhi' : hi.map a.eval = none∧hb = len ∨ ∃ k,hi.map a.eval = some (.int k hb):=by
       rcases opt hhi with ⟨rfl,rfl⟩ | ⟨y,ay,rfl,rfl,hy⟩
       ·simp at hgh; subst hgh; simp at heq; exact .inl ⟨rfl,heq.symm⟩
       ·simp only [Option.map_eq_some_iff] at hgh
        obtain ⟨z,hz,rfl⟩:=hgh;cases z <;> simp at heq
        subst heq;exact .inr ⟨_,congrArg some (Yp hT hy hz).int_inv⟩
      cases hv with
      | imm hv => cases hv
      | sliceV id ad hσ =>
       have:=run_slice (P:=P) (w:=w) (ad:=ad) (len:=0) (cap:=0) ht hn hlo' hhi' h0 h1 (by simpa using h2)
       have e1 : l = 0:=by simp at h2; omega
       have e2 : hb = 0:=by simp at h2; omega
       subst e1 e2;exact fin (by rw [hax]; exact this) (by simpa using RelV.sliceV id ad hσ)
      | slice id off len cap b sz n' c ad hσ q1 q2 q3 q4 =>
       have:=run_slice (P:=P) (w:=w) (ad:=some ad) (len:=len) (cap:=cap) ht hn hlo' hhi' h0 h1 (by omega)
       refine fin (by rw [hax]; exact this) ?_
       rcases hR.ok id _ hr with ⟨hk,_⟩ | ⟨b',c',cells,t',hk,hh',hs,hn',_,hp',hel,hf⟩
       ·rw [hk] at hσ; cases hσ
       ·have q:=hk.symm.trans hσ
        simp only [Option.some.injEq,Loc.row.injEq] at q;obtain ⟨rfl,rfl,rfl,rfl⟩:=q;have e1 : (hb - l).toNat = hb.toNat - l.toNat:=by omega
        rw [e1];by_cases hcl : cap = l.toNat
        ·simp only [hcl,if_true]
         exact .slice id _ _ _ b' sz' es.length c' ad hσ (by omega) (by omega) (by omega) (by omega)
        ·simp only [hcl,if_false,Option.map_some]
         refine .slice id _ _ _ b' sz' es.length c' _ hσ (by omega) (by omega) (by omega) (fun _=>?_)
         rw [q4 (by omega),Addr.add_lit,Nat.add_mul]
     ·cases h
    ·cases h
   ·cases h
  ·rename_i sz' es hh hgh
   split at h
   ·rename_i hb heq
    split at h
    ·rename_i hc
     obtain ⟨rfl,h0,h1,h2⟩:=hc;simp only [Option.some.injEq] at h; subst h
     have hhi' : hi.map a.eval = none∧hb = (es.length : Int) ∨ ∃ k,hi.map a.eval = some (.int k hb):=by
      rcases opt hhi with ⟨rfl,rfl⟩ | ⟨y,ay,rfl,rfl,hy⟩
      ·simp at hgh; subst hgh; simp at heq; exact .inl ⟨rfl,heq.symm⟩
      ·simp only [Option.map_eq_some_iff] at hgh
       obtain ⟨z,hz,rfl⟩:=hgh;cases z <;> simp at heq
       subst heq;exact .inr ⟨_,congrArg some (Yp hT hy hz).int_inv⟩
     have e1 : (hb - l).toNat = hb.toNat - l.toNat:=by omega
     cases hv with
     | imm hv =>
      cases hv with
      | list0 ad cap sz =>
       have e2 : l = 0:=by simp at h2; omega
       have e3 : hb = 0:=by simp at h2; omega
       subst e2 e3;have:=run_slice (P:=P) (w:=w) (ad:=ad) (len:=0) (cap:=cap) ht hn hlo' hhi' h0 h1 (by omega)
       exact fin (by rw [hax]; exact this) (.imm (by simpa using RelI.list0 _ _ _))
      | list b o' sz cap _ f hb' hcap he hc' hr' =>
       have:=run_slice (P:=P) (w:=w) (ad:=some ⟨b,o',none⟩) (len:=es.length) (cap:=cap) ht hn hlo' hhi' h0 h1 (by omega)
       refine fin (by rw [hax]; exact this) (.imm ?_)
       rw [e1];by_cases hlh : hb.toNat - l.toNat = 0
       ·rw [hlh,List.take_zero]; exact .list0 _ _ _
       ·have hcl : cap ≠ l.toNat:=by omega
        simp only [hcl,if_false,Option.map_some,Addr.add_lit];have hlen : ((es.drop l.toNat).take (hb.toNat - l.toNat)).length = hb.toNat - l.toNat:=by simp; omega
        have key : RelI S w (.slice (some ⟨b,o' + l.toNat * sz',none⟩) ((es.drop l.toNat).take (hb.toNat - l.toNat)).length (cap - l.toNat)) (.list sz' ((es.drop l.toNat).take (hb.toNat - l.toNat))):=by
         refine .list b _ sz' _ _ (fun i=>f (l.toNat * sz' + i)) hb' (by omega) (fun e hm => he e (List.mem_of_mem_drop (List.mem_of_mem_take hm))) (fun i hi => ?_) (fun i c hc => ?_)
         ·rw [Nat.add_assoc]
          refine hc' _ ?_;rw [hlen] at hi;have : l.toNat * sz' + (hb.toNat - l.toNat) * sz'≤es.length * sz':=by rw [← Nat.add_mul]; exact Nat.mul_le_mul_right _ (by omega)
          omega
         ·rw [flat_take (fun e hm => he e (List.mem_of_mem_drop hm)),flat_drop he] at hc
          have:=List.getElem?_take (l:=List.drop (l.toNat * sz') (flat es)) (i:=(hb.toNat - l.toNat) * sz') (j:=i);rw [this] at hc;split at hc
          ·rw [List.getElem?_drop] at hc; exact hr' _ _ hc
          ·cases hc
        rw [hlen] at key;exact key
    ·cases h
   ·cases h
  ·rename_i hh _ _ hgh
   split at h;case isFalse => cases h
   rename_i hnil;split at h
   ·rename_i hb heq
    split at h
    ·rename_i hc
     obtain ⟨rfl,rfl⟩:=hc;simp only [Option.some.injEq] at h; subst h
     have hhi' : hi.map a.eval = none∧(0 : Int) = ((0 : Nat) : Int) ∨ ∃ k,hi.map a.eval = some (.int k 0):=by
      rcases opt hhi with ⟨rfl,rfl⟩ | ⟨y,ay,rfl,rfl,hy⟩
      ·exact .inl ⟨rfl,rfl⟩
      ·simp only [Option.map_eq_some_iff] at hgh
       obtain ⟨z,hz,rfl⟩:=hgh;cases z <;> simp at heq
       subst heq;exact .inr ⟨_,congrArg some (Yp hT hy hz).int_inv⟩
     obtain ⟨base,rfl⟩:=nil_val hv hnil;have:=run_slice (P:=P) (w:=w) (ad:=base) (len:=0) (cap:=0) ht hn hlo' hhi' (Int.le_refl 0) (Int.le_refl 0) (Int.le_refl 0);refine fin (by rw [hax]; exact this) ?_
     simpa using hv
    ·cases h
   ·cases h
  ·cases h
 ·cases h
end
end Go.Abs
namespace Go.Abs
section
variable {P : Program} {Γ : Gam} {Own : Nat → Prop} {σ : Ids} {S : Nat → Prop} {w : World} {R : Nat → Option Row} {s : Nat} {T : Nat → Option AV} {a : Act} {o : Oper} {e : Eff}
theorem fin_pure {sem : Sem Value} {u : Value} {y : AV} {rd : List Nat} (hR : RowsOk P Γ Own σ S w R) (he : execOp a.eval o = (do pure (.value (← sem)))) (h1 : sem.run P w = .ok u w)
  (h2 : RelV σ S w u y) : ∃ v w',OpRuns P a o w v w'∧Step P Γ Own σ S w R s ⟨y,[],rd⟩ v w' :=
 ⟨u,w,.inl (by rw [he]; simp [h1]),Step.read hR h2⟩
theorem mv_sound {x : Operand} {t : Option TypeId} {ao : AOpd} (hT : TmpsOk σ S w T a) (hR : RowsOk P Γ Own σ S w R) (ho : o.op = .move x ∨ o.op = .assign x) (hx : opd P t x = some ao)
  (call : CallF) (h : evalOp call s (getO T) R (.mv ao) = some e) : ∃ v w',OpRuns P a o w v w'∧Step P Γ Own σ S w R s e v w':=by
 simp only [evalOp] at h;split at h
 ·rename_i v hg
  simp at h; subst h
  exact ⟨a.eval x,w,.inl (by rcases ho with ho | ho <;> simp [execOp,ho]),Step.pure hR (Yp hT hx hg)⟩
 ·cases h
theorem pick_sound {c x y : Operand} {t : Option TypeId} {ac ax ay : AOpd} (hT : TmpsOk σ S w T a) (hR : RowsOk P Γ Own σ S w R) (ho : o.op = .pick c x y) (hc : opd P none c = some ac)
  (hx : opd P t x = some ax) (hy : opd P t y = some ay) (call : CallF) (h : evalOp call s (getO T) R (.pick ac ax ay) = some e) :
  ∃ v w',OpRuns P a o w v w'∧Step P Γ Own σ S w R s e v w':=by
 simp only [evalOp] at h;split at h
 ·rename_i hg
  have hb:=(Yp hT hc hg).bool_inv;split at h
  ·rename_i v hv
   simp at h; subst h
   exact ⟨a.eval x,w,.inl (by simp [execOp,ho,hb,asBool]),Step.pure hR (Yp hT hx hv)⟩
  ·cases h
 ·rename_i hg
  have hb:=(Yp hT hc hg).bool_inv;split at h
  ·rename_i v hv
   simp at h; subst h
   exact ⟨a.eval y,w,.inl (by simp [execOp,ho,hb,asBool]),Step.pure hR (Yp hT hy hv)⟩
  ·cases h
 ·cases h
theorem nilCk_sound {x : Operand} {t : Option TypeId} {ax : AOpd} (hT : TmpsOk σ S w T a) (hR : RowsOk P Γ Own σ S w R) (ho : o.op = .nilCheck x) (hx : opd P t x = some ax)
  (call : CallF) (h : evalOp call s (getO T) R (.nilCk ax) = some e) : ∃ v w',OpRuns P a o w v w'∧Step P Γ Own σ S w R s e v w':=by
 simp only [evalOp] at h;split at h
 ·rename_i hg
  simp at h; subst h
  have hv:=Yp hT hx hg;refine ⟨a.eval x,w,.inl ?_,Step.pure hR hv⟩;generalize hax : a.eval x = va at hv;cases hv with
  | imm hv => cases hv
  | ptr => simp [execOp,ho,hax]
 ·rename_i hg
  simp at h; subst h
  have hv:=Yp hT hx hg;refine ⟨a.eval x,w,.inl ?_,Step.pure hR hv⟩;generalize hax : a.eval x = va at hv;cases hv with
  | imm hv => cases hv; simp [execOp,ho,hax]
 ·cases h
theorem bin_sound {op : BinOp} {t ty : TypeId} {t1 t2 : Option TypeId} {x y : Operand} {ax ay : AOpd} (hT : TmpsOk σ S w T a) (hR : RowsOk P Γ Own σ S w R) (ho : o.op = .binOp op t x y ty)
  (hx : opd P t1 x = some ax) (hy : opd P t2 y = some ay) (call : CallF) (h : evalOp call s (getO T) R (.bin op ax ay) = some e) : ∃ v w',OpRuns P a o w v w'∧Step P Γ Own σ S w R s e v w':=by
 simp only [evalOp] at h;split at h
 ·rename_i k m k' n hgx hgy
  split at h
  ·rename_i v hb
   simp at h; subst h
   obtain ⟨u,h1,h2⟩:=binI_run (P:=P) (S:=S) (w:=w) (t:=t) (ox:=x) (oy:=y) hb;refine fin_pure hR (sem:=do eqGuard op t x y (a.eval x) (a.eval y); binOp op t (a.eval x) (a.eval y)) ?_ ?_ (.imm h2)
   ·simp [execOp,ho]
   ·rw [(Yp hT hx hgx).int_inv,(Yp hT hy hgy).int_inv]; exact h1
  ·cases h
 ·cases h
theorem un_sound {op : UnOp} {ty : TypeId} {t1 : Option TypeId} {x : Operand} {ax : AOpd} (hT : TmpsOk σ S w T a) (hR : RowsOk P Γ Own σ S w R) (ho : o.op = .unOp op ty x)
  (hx : opd P t1 x = some ax) (call : CallF) (h : evalOp call s (getO T) R (.un op ax) = some e) : ∃ v w',OpRuns P a o w v w'∧Step P Γ Own σ S w R s e v w':=by
 simp only [evalOp] at h;split at h
 ·rename_i k n hg
  simp at h; subst h
  refine fin_pure hR (sem:=Op.unary .neg (a.eval x)) (by simp [execOp,ho]) (u:=.int k (k.wrap (0 - n))) ?_ (.imm ?_)
  ·rw [(Yp hT hx hg).int_inv]; simp [Op.unary,Op.intArith]
  ·simpa using RelI.int k (k.wrap (0 - n))
 ·rename_i b hg
  simp at h; subst h
  refine fin_pure hR (sem:=Op.unary .not (a.eval x)) (by simp [execOp,ho]) (u:=.bool (!b)) ?_ (.imm (.bool _))
  rw [(Yp hT hx hg).bool_inv]; simp [Op.unary]
 ·cases h
theorem conv_sound {src dst : TypeId} {k k0 : IntKind} {t1 : Option TypeId} {x : Operand} {ax : AOpd} (hT : TmpsOk σ S w T a) (hR : RowsOk P Γ Own σ S w R) (ho : o.op = .convert src dst x)
  (hs : P.underlying src = some (.int k0)) (hd : P.underlying dst = some (.int k)) (hx : opd P t1 x = some ax) (call : CallF) (h : evalOp call s (getO T) R (.conv k ax) = some e) :
  ∃ v w',OpRuns P a o w v w'∧Step P Γ Own σ S w R s e v w':=by
 simp only [evalOp] at h;split at h
 ·rename_i k' n hg
  simp at h; subst h
  refine fin_pure hR (sem:=convert src dst (a.eval x)) (by simp [execOp,ho]) (u:=.int k (k.wrap n)) ?_ (.imm (.int _ _))
  rw [(Yp hT hx hg).int_inv];unfold convert;rw [Sem.run_bind,run_underlying hs,Result.andThen_ok,Sem.run_bind,run_underlying hd,Result.andThen_ok];rfl
 ·cases h
theorem opds_sound {t : Option TypeId} {xs : List Operand} {as : List AOpd} {vs : List AV} (hT : TmpsOk σ S w T a) (hx : mapO (opd P t) xs = some as) (hg : mapO (getO T) as = some vs) :
  xs.length = vs.length∧∀ (i : Nat) v c,(xs.map a.eval)[i]? = some v → vs[i]? = some c → RelV σ S w v c:=by
 obtain ⟨h1,h2⟩:=mapO_spec hx;obtain ⟨h3,h4⟩:=mapO_spec hg;refine ⟨by omega,fun i v c hv hc => ?_⟩
 rw [List.getElem?_map] at hv;simp only [Option.map_eq_some_iff] at hv;obtain ⟨x,hx',rfl⟩:=hv;have hi : i < as.length:=by have:=(List.getElem?_eq_some_iff.1 hc).1; omega
 exact Yp hT (h2 i x as[i] hx' (List.getElem?_eq_getElem hi)) (h4 i as[i] c (List.getElem?_eq_getElem hi) hc)
theorem fn_sound {f : Nat} {first captured : Array Operand} {as : List AOpd} (hT : TmpsOk σ S w T a) (hR : RowsOk P Γ Own σ S w R) (ho : o.op = .makeFunc (.func f) first captured)
  (hf : first.toList = []) (hx : mapO (opd P none) captured.toList = some as) (call : CallF) (h : evalOp call s (getO T) R (.fn f as) = some e) :
  ∃ v w',OpRuns P a o w v w'∧Step P Γ Own σ S w R s e v w':=by
 simp only [evalOp] at h;split at h
 ·rename_i vs hg
  simp at h; subst h
  obtain ⟨h1,h2⟩:=opds_sound hT hx hg;have hf' : first = #[]:=by simpa using hf
  refine fin_pure hR (sem:=Instr.makeFunc (.func f) (first.map a.eval) (captured.map a.eval)) (by simp [execOp,ho]) (u:=.func (.func f) #[] (captured.map a.eval)) ?_ (.func f _ vs ?_ fun i v c hv hc => ?_)
  ·simp [Instr.makeFunc,hf']
  ·simpa using h1
  ·refine h2 i v c ?_ hc
   have : captured.toList.map a.eval = (captured.map a.eval).toList:=by simp
   rw [this,Array.getElem?_toList]; exact hv
 ·cases h
theorem meth_sound {f : Nat} {first captured : Array Operand} {x : Operand} {ax : AOpd} (hT : TmpsOk σ S w T a) (hR : RowsOk P Γ Own σ S w R) (ho : o.op = .makeFunc (.func f) first captured)
  (hf : first.toList = [x]) (hc : captured.isEmpty = true) (hx : opd P none x = some ax) (call : CallF) (h : evalOp call s (getO T) R (.meth f ax) = some e) :
  ∃ v w',OpRuns P a o w v w'∧Step P Γ Own σ S w R s e v w':=by
 simp only [evalOp] at h;split at h
 ·rename_i v hg
  simp at h; subst h
  have h1:=Yp hT hx hg;have hf' : first = #[x]:=by apply Array.ext'; simpa using hf
  have hc' : captured = #[]:=by simpa using hc
  refine fin_pure hR (sem:=Instr.makeFunc (.func f) (first.map a.eval) (captured.map a.eval)) (by simp [execOp,ho]) (u:=.func (.func f) #[a.eval x] #[]) ?_ (.meth f _ v h1)
  simp [Instr.makeFunc,hf',hc']
 ·cases h
theorem fieldA_sound {st : TypeId} {f off n : Nat} {fl : Field} {fields : Array Field} {t1 : Option TypeId} {x : Operand} {ax : AOpd} (hT : TmpsOk σ S w T a) (hR : RowsOk P Γ Own σ S w R)
  (ho : o.op = .fieldAddr st x f) (hs : P.underlying st = some (.struct fields)) (hf : fields[f]? = some fl) (hn : szOf P fl.type = some n) (hz : n ≠ 0) (hoff : fl.offset = off)
  (hx : opd P t1 x = some ax) (call : CallF) (h : evalOp call s (getO T) R (.fieldA off ax) = some e) : ∃ v w',OpRuns P a o w v w'∧Step P Γ Own σ S w R s e v w':=by
 simp only [szOf,Option.map_eq_some_iff] at hn;obtain ⟨i,hi,rfl⟩:=hn;have run : ∀ (b k : Nat),(Instr.fieldAt st (.pointer (some ⟨b,k,none⟩)) f).run P w = .ok (.pointer (some ⟨b,k + off,none⟩)) w:=by
  intro b k;unfold Instr.fieldAt;rw [Sem.run_bind,run_underlying hs,Result.andThen_ok];simp [hf,Instr.sureAddr,fieldPlace,sizeOf,typeInfo,hi,hz,Addr.add_lit,hoff]
 simp only [evalOp] at h;split at h
 ·rename_i id idx k hg
  simp at h; subst h
  have hv:=Yp hT hx hg;generalize hax : a.eval x = va at hv;cases hv with
  | imm hv => cases hv
  | ptr id idx k b sz n c hσ h1 =>
   refine fin_pure hR (sem:=Instr.fieldAt st (a.eval x) f) (by simp [execOp,ho]) (by rw [hax]; exact run b _) ?_
   rw [Nat.add_assoc];exact .ptr id idx (k + off) b sz n c hσ h1
 ·rename_i y k hg
  simp at h; subst h
  have hv:=Yp hT hx hg;generalize hax : a.eval x = va at hv;cases hv with
  | imm hv =>
   cases hv with
   | iptr b o' k e f' hb he hc hr =>
    refine fin_pure hR (sem:=Instr.fieldAt st (a.eval x) f) (by simp [execOp,ho]) (by rw [hax]; exact run b _) (.imm ?_)
    rw [Nat.add_assoc];exact .iptr b o' (k + off) _ f' hb he hc hr
 ·rename_i id idx k hg
  simp at h; subst h
  have hv:=Yp hT hx hg;generalize hax : a.eval x = va at hv;cases hv with
  | imm hv => cases hv
  | tabP _ _ _ b sz n c inn hσ h1 =>
   refine fin_pure hR (sem:=Instr.fieldAt st (a.eval x) f) (by simp [execOp,ho]) (by rw [hax]; exact run b _) ?_
   rw [Nat.add_assoc];exact .tabP id idx (k + off) b sz n c inn hσ h1
 ·cases h
theorem run_part {t : TypeId} {n : Nat} {ag : Bool} {off : Nat} {cs : List AV} {v : AV} {vs : Array Value} (hn : szOf P t = some n) (ha : agOf P t = some ag) (h1 : ag = false → n = 1)
  (h : Abs.part ag off n cs = some v) (hl : vs.size = cs.length) (hr : ∀ (i : Nat) v c,vs[i]? = some v → cs[i]? = some c → RelV σ S w v c) :
  ∃ u,(Go.part t vs off).run P w = .ok u w∧RelV σ S w u v:=by
 have hle : off + n≤cs.length:=by
  unfold Abs.part at h;split at h
  ·assumption
  ·cases h
 have hrel:=part_rel (σ:=σ) (S:=S) (w:=w) (f:=fun i=>vs.getD i undef) h h1 (fun i c hc => by
  have : i < vs.size:=by have:=(List.getElem?_eq_some_iff.1 hc).1; omega
  have e : vs.getD i undef = vs[i]:=by simp [this]
  show RelV σ S w (vs.getD i undef) c
  rw [e]; exact hr i _ c (Array.getElem?_eq_getElem this) hc)
 refine ⟨_,?_,hrel⟩;simp only [szOf,Option.map_eq_some_iff] at hn;obtain ⟨i,hi,rfl⟩:=hn;simp only [agOf,Option.map_eq_some_iff] at ha;obtain ⟨d,hd,rfl⟩:=ha;have hagg : (isAgg t).run P w = .ok (isAggD d) w:=by
  unfold isAgg;rw [Sem.run_bind,run_underlying hd];cases d <;> rfl
 unfold Go.part;rw [Sem.run_bind,hagg,Result.andThen_ok];cases hag : isAggD d with
 | true =>
  simp only [if_true,Sem.run_bind,sizeOf,typeInfo,run_program,Result.andThen_ok,hi,Sem.run_pure]
  congr 2
  apply Array.ext
  ·simp; omega
  ·intro j hj1 hj2
   simp at hj1 hj2;have : off + j < vs.size:=by omega
   simp [this]
 | false =>
  have h1' : i.size = 1:=h1 hag;have : off < vs.size:=by omega
  simp [this]
theorem field_sound {st : TypeId} {f off n : Nat} {ag : Bool} {fl : Field} {fields : Array Field} {t1 : Option TypeId} {x : Operand} {ax : AOpd} (hT : TmpsOk σ S w T a) (hR : RowsOk P Γ Own σ S w R)
  (ho : o.op = .field st x f) (hs : P.underlying st = some (.struct fields)) (hf : fields[f]? = some fl) (hn : szOf P fl.type = some n) (ha : agOf P fl.type = some ag) (h1 : ag = false → n = 1)
  (hoff : fl.offset = off) (hx : opd P t1 x = some ax) (call : CallF) (h : evalOp call s (getO T) R (.field off n ag ax) = some e) : ∃ v w',OpRuns P a o w v w'∧Step P Γ Own σ S w R s e v w':=by
 simp only [evalOp] at h;split at h
 ·rename_i cs hg
  split at h
  ·rename_i v hp
   simp at h; subst h
   have hv:=Yp hT hx hg;generalize hax : a.eval x = va at hv;have key : ∃ vs,va = .agg vs∧vs.size = cs.length∧∀ (i : Nat) v c,vs[i]? = some v → cs[i]? = some c → RelV σ S w v c:=by
    cases hv with
    | imm hv => cases hv with | agg vs _ hl hr => exact ⟨vs,rfl,hl,fun i v c h1 h2 => .imm (hr i v c h1 h2)⟩
    | agg vs _ hl hr => exact ⟨vs,rfl,hl,hr⟩
   obtain ⟨vs,rfl,hl,hr⟩:=key;obtain ⟨u,r1,r2⟩:=run_part (P:=P) hn ha h1 hp hl hr;refine fin_pure hR (sem:=Instr.field st (a.eval x) f) (by simp [execOp,ho]) ?_ r2
   rw [hax];unfold Instr.field;rw [Sem.run_bind,run_underlying hs,Result.andThen_ok];simp [hf,asAgg,hoff,r1]
  ·cases h
 ·cases h
theorem index_sound {t el : TypeId} {len n : Nat} {ag : Bool} {t1 t2 : Option TypeId} {x i : Operand} {ax ai : AOpd} (hT : TmpsOk σ S w T a) (hR : RowsOk P Γ Own σ S w R)
  (ho : o.op = .index t x i) (ht : P.underlying t = some (.array len el)) (hn : szOf P el = some n) (ha : agOf P el = some ag) (h1 : ag = false → n = 1)
  (hx : opd P t1 x = some ax) (hi : opd P t2 i = some ai) (call : CallF) (h : evalOp call s (getO T) R (.index len n ag ax ai) = some e) : ∃ v w',OpRuns P a o w v w'∧Step P Γ Own σ S w R s e v w':=by
 simp only [evalOp] at h;split at h
 ·rename_i cs k m hg hgi
  split at h
  ·rename_i hb
   split at h
   ·rename_i v hp
    simp at h; subst h
    have hv:=Yp hT hx hg;generalize hax : a.eval x = va at hv;have key : ∃ vs,va = .agg vs∧vs.size = cs.length∧∀ (i : Nat) v c,vs[i]? = some v → cs[i]? = some c → RelV σ S w v c:=by
     cases hv with
     | imm hv => cases hv with | agg vs _ hl hr => exact ⟨vs,rfl,hl,fun i v c h1 h2 => .imm (hr i v c h1 h2)⟩
     | agg vs _ hl hr => exact ⟨vs,rfl,hl,hr⟩
    obtain ⟨vs,rfl,hl,hr⟩:=key;obtain ⟨u,r1,r2⟩:=run_part (P:=P) hn ha h1 hp hl hr;refine fin_pure hR (sem:=Instr.index t (a.eval x) (a.eval i)) (by simp [execOp,ho]) ?_ r2
    rw [hax,(Yp hT hi hgi).int_inv];simp only [szOf,Option.map_eq_some_iff] at hn;obtain ⟨inf,hinf,rfl⟩:=hn;unfold Instr.index;simp only [asIntOf,pure_bind];rw [Sem.run_bind,run_underlying ht,Result.andThen_ok];simp [hb,sizeOf,typeInfo,hinf,r1]
   ·cases h
  ·cases h
 ·cases h
theorem indexA_sound {t el : TypeId} {n : Nat} {t1 t2 : Option TypeId} {x i : Operand} {ax ai : AOpd} (hT : TmpsOk σ S w T a) (hR : RowsOk P Γ Own σ S w R)
  (ho : o.op = .indexAddr t x i) (ht : P.underlying t = some (.slice el)) (hn : szOf P el = some n)
  (hx : opd P t1 x = some ax) (hi : opd P t2 i = some ai) (h : evIndexA (getO T) R n ax ai = some e) : ∃ v w',OpRuns P a o w v w'∧Step P Γ Own σ S w R s e v w':=by
 have run : ∀ {b off len cap : Nat} {k : IntKind} {m : Int},0≤m → m < len → (Instr.indexAt t (.slice (some ⟨b,off,none⟩) len cap) (.int k m)).run P w = .ok (.pointer (some ⟨b,off + m.toNat * n,none⟩)) w:=by
  intro b off len cap k m h0 h1;simp only [szOf,Option.map_eq_some_iff] at hn;obtain ⟨inf,hinf,rfl⟩:=hn;unfold Instr.indexAt;simp only [asIntOf,pure_bind];rw [Sem.run_bind,run_underlying ht,Result.andThen_ok];simp [run_underlying ht,h0,h1,sizeOf,typeInfo,hinf,Addr.add_lit]
 unfold evIndexA at h;split at h
 ·rename_i id off len k m hg hgi
  have hv:=Yp hT hx hg;generalize hax : a.eval x = va at hv;split at h
  ·rename_i sz' es hr
   split at h
   ·rename_i hb
    obtain ⟨rfl,h0,h1⟩:=hb;simp at h; subst h
    cases hv with
    | imm hv => cases hv
    | sliceV id ad hσ => simp at h1; omega
    | slice id off len cap b sz n' c ad hσ q1 q2 q3 q4 =>
     rcases hR.ok id _ hr with ⟨hk,_⟩ | ⟨b',c',cells,t',hk,hh',hs,hn',_,hp',hel,hf⟩
     ·rw [hk] at hσ; cases hσ
     ·have q:=hk.symm.trans hσ
      simp only [Option.some.injEq,Loc.row.injEq] at q;obtain ⟨rfl,rfl,rfl,rfl⟩:=q;refine fin_pure hR (sem:=Instr.indexAt t (a.eval x) (a.eval i)) (by simp [execOp,ho]) (by rw [hax,(Yp hT hi hgi).int_inv,q4 (by omega)]; exact run h0 h1) ?_
      have:=RelV.ptr (S:=S) (w:=w) id (off + m.toNat) 0 b' sz' es.length c' hσ (by omega)
      rw [Nat.add_mul,Nat.add_zero] at this;exact this
   ·cases h
  ·cases h
 ·rename_i sz' es k m hg hgi
  have hv:=Yp hT hx hg;generalize hax : a.eval x = va at hv;split at h
  ·rename_i hb
   obtain ⟨rfl,h0⟩:=hb;split at h
   ·rename_i y hy
    simp at h; subst h
    have hlt : m.toNat < es.length:=(List.getElem?_eq_some_iff.1 hy).1;cases hv with
    | imm hv =>
     cases hv with
     | list0 ad cap sz => simp at hlt
     | list b o' sz cap _ f hb' hcap he hc' hr' =>
      have hee:=he y (List.mem_of_getElem? hy);refine fin_pure hR (sem:=Instr.indexAt t (a.eval x) (a.eval i)) (by simp [execOp,ho]) (by rw [hax,(Yp hT hi hgi).int_inv]; exact run h0 (by omega)) (.imm ?_)
      refine .iptr b (o' + m.toNat * sz') 0 y (fun i=>f (m.toNat * sz' + i)) hb' hee.2 (fun i hi => ?_) (fun i c hc => ?_)
      ·rw [Nat.add_assoc]
       refine hc' _ ?_;rw [hee.1] at hi;have : m.toNat * sz' + 1 * sz'≤es.length * sz':=by rw [← Nat.add_mul]; exact Nat.mul_le_mul_right _ (by omega)
       omega
      ·refine hr' _ _ ?_
       have hi : i < sz':=by rw [← hee.1]; exact (List.getElem?_eq_some_iff.1 hc).1
       rw [flat_get he hy hi]; exact hc
   ·cases h
  ·cases h
 ·rename_i id len k m hg hgi
  have hv:=Yp hT hx hg;generalize hax : a.eval x = va at hv;split at h
  ·rename_i sz' es hr
   split at h
   ·rename_i hb
    obtain ⟨rfl,h0,h1⟩:=hb;simp at h; subst h
    cases hv with
    | imm hv => cases hv
    | tabV _ ad hσ => simp at h1; omega
    | tabS _ b sz n' c inn hσ =>
     rcases hR.ok id _ hr with ⟨hk,_⟩ | ⟨l,hk,ht⟩
     ·rw [hk] at hσ; cases hσ
     ·obtain ⟨b0,c0,inn0,cells,t',rfl,g2,g3,g4,g5,g6,g7,g8,g9,g10⟩:=ht
      have hσ':=hσ;rw [hk] at hσ';simp only [Option.some.injEq,Loc.tab.injEq] at hσ';obtain ⟨rfl,rfl,rfl,rfl,rfl⟩:=hσ';refine fin_pure hR (sem:=Instr.indexAt t (a.eval x) (a.eval i)) (by simp [execOp,ho]) (by rw [hax,(Yp hT hi hgi).int_inv]; exact run h0 h1) ?_
      have:=RelV.tabP (S:=S) (w:=w) id m.toNat 0 b0 sz' es.length c0 inn0 hσ (by omega)
      rw [Nat.add_zero] at this;rw [Nat.zero_add];exact this
   ·cases h
  ·cases h
 ·rename_i id p len k m hg hgi
  have hv:=Yp hT hx hg;generalize hax : a.eval x = va at hv;split at h
  ·rename_i sz' es hr
   split at h
   ·rename_i hb
    obtain ⟨rfl,h0,h1⟩:=hb;simp at h; subst h
    cases hv with
    | imm hv => cases hv
    | in0 _ _ b sz n' c inn ad hσ q1 => simp at h1; omega
    | inS _ _ _ b sz n' c inn b' c' hσ q1 q2 =>
     refine fin_pure hR (sem:=Instr.indexAt t (a.eval x) (a.eval i)) (by simp [execOp,ho]) (by rw [hax,(Yp hT hi hgi).int_inv]; exact run h0 h1) ?_
     rw [Nat.zero_add,Nat.mul_one];exact .inP id p m.toNat b sz n' c inn b' c' hσ q1
   ·cases h
  ·cases h
 ·cases h
theorem indexP_sound {t el : TypeId} {len n : Nat} {t1 t2 : Option TypeId} {x i : Operand} {ax ai : AOpd} (hT : TmpsOk σ S w T a) (hR : RowsOk P Γ Own σ S w R)
  (ho : o.op = .indexAddr t x i) (ht : P.underlying t = some (.array len el)) (hn : szOf P el = some n)
  (hx : opd P t1 x = some ax) (hi : opd P t2 i = some ai) (call : CallF) (h : evalOp call s (getO T) R (.indexP len n ax ai) = some e) : ∃ v w',OpRuns P a o w v w'∧Step P Γ Own σ S w R s e v w':=by
 have run : ∀ {b off : Nat} {k : IntKind} {m : Int},0≤m → m < len → (Instr.indexAt t (.pointer (some ⟨b,off,none⟩)) (.int k m)).run P w = .ok (.pointer (some ⟨b,off + m.toNat * n,none⟩)) w:=by
  intro b off k m h0 h1;simp only [szOf,Option.map_eq_some_iff] at hn;obtain ⟨inf,hinf,rfl⟩:=hn;unfold Instr.indexAt;simp only [asIntOf,pure_bind];rw [Sem.run_bind,run_underlying ht,Result.andThen_ok];simp [run_underlying ht,h0,h1,sizeOf,typeInfo,hinf,Addr.add_lit,Instr.sureAddr]
 simp only [evalOp] at h;split at h
 ·rename_i id idx off k m hg hgi
  have hv:=Yp hT hx hg;generalize hax : a.eval x = va at hv;split at h
  ·rename_i hb
   simp at h; subst h
   cases hv with
   | imm hv => cases hv
   | ptr id idx off b sz n' c hσ h1 =>
    refine fin_pure hR (sem:=Instr.indexAt t (a.eval x) (a.eval i)) (by simp [execOp,ho]) (by rw [hax,(Yp hT hi hgi).int_inv]; exact run hb.1 hb.2) ?_
    rw [Nat.add_assoc];exact .ptr id idx _ b sz n' c hσ h1
  ·cases h
 ·rename_i y off k m hg hgi
  have hv:=Yp hT hx hg;generalize hax : a.eval x = va at hv;split at h
  ·rename_i hb
   simp at h; subst h
   cases hv with
   | imm hv =>
    cases hv with
    | iptr b o' off e f' hb' he hc hr =>
     refine fin_pure hR (sem:=Instr.indexAt t (a.eval x) (a.eval i)) (by simp [execOp,ho]) (by rw [hax,(Yp hT hi hgi).int_inv]; exact run hb.1 hb.2) (.imm ?_)
     rw [Nat.add_assoc];exact .iptr b o' _ _ f' hb' he hc hr
  ·cases h
 ·cases h
theorem extract_sound {ix : Nat} {t1 : Option TypeId} {x : Operand} {ax : AOpd} (hT : TmpsOk σ S w T a) (hR : RowsOk P Γ Own σ S w R)
  (ho : o.op = .extract x ix) (hx : opd P t1 x = some ax) (call : CallF) (h : evalOp call s (getO T) R (.extract ax ix) = some e) : ∃ v w',OpRuns P a o w v w'∧Step P Γ Own σ S w R s e v w':=by
 simp only [evalOp] at h;split at h
 ·rename_i vs hg
  split at h
  ·rename_i v hv'
   simp at h; subst h
   have hv:=Yp hT hx hg;generalize hax : a.eval x = va at hv;cases hv with
   | imm hv => cases hv
   | tuple us _ hl hr =>
    have hlt : ix < us.size:=by have:=(List.getElem?_eq_some_iff.1 hv').1; omega
    refine fin_pure hR (sem:=Instr.extract (a.eval x) ix) (by simp [execOp,ho]) (u:=us[ix]) ?_ (hr ix _ v (Array.getElem?_eq_getElem hlt) hv')
    rw [hax]; simp [Instr.extract,hlt]
  ·cases h
 ·cases h
theorem len_sound {t el : TypeId} {t1 : Option TypeId} {x : Operand} {ax : AOpd} (hT : TmpsOk σ S w T a) (hR : RowsOk P Γ Own σ S w R)
  (ho : o.op = .call ⟨.builtin .len,#[x],#[t]⟩) (ht : P.underlying t = some (.slice el)) (hx : opd P t1 x = some ax) (call : CallF) (h : evalOp call s (getO T) R (.len ax) = some e) :
  ∃ v w',OpRuns P a o w v w'∧Step P Γ Own σ S w R s e v w':=by
 have run : ∀ {ad : Option Addr} {n cap : Nat},a.eval x = .slice ad n cap → (execOp a.eval o).run P w = .ok (.value (.int .i64 n)) w:=by
  intro ad n cap hax;simp only [execOp,ho,resolve,invoke,builtin,pure_bind,Sem.run_bind,List.map_toArray,List.map_cons,List.map_nil,hax];unfold Builtin.len_;simp [run_underlying ht,goInt]
 simp only [evalOp] at h;split at h
 ·rename_i id off n hg
  simp at h; subst h
  have hv:=Yp hT hx hg;generalize hax : a.eval x = va at hv;cases hv with
  | imm hv => cases hv
  | sliceV => exact ⟨_,w,.inl (run hax),Step.pure hR (.imm (.int _ _))⟩
  | slice => exact ⟨_,w,.inl (run hax),Step.pure hR (.imm (.int _ _))⟩
 ·rename_i sz es hg
  simp at h; subst h
  have hv:=Yp hT hx hg;generalize hax : a.eval x = va at hv;cases hv with
  | imm hv =>
   cases hv with
   | list0 => exact ⟨_,w,.inl (run hax),Step.pure hR (.imm (.int _ _))⟩
   | list => exact ⟨_,w,.inl (run hax),Step.pure hR (.imm (.int _ _))⟩
 ·rename_i id n hg
  simp at h; subst h
  have hv:=Yp hT hx hg;generalize hax : a.eval x = va at hv;cases hv with
  | imm hv => cases hv
  | tabV => exact ⟨_,w,.inl (run hax),Step.pure hR (.imm (.int _ _))⟩
  | tabS => exact ⟨_,w,.inl (run hax),Step.pure hR (.imm (.int _ _))⟩
 ·rename_i id p n hg
  simp at h; subst h
  have hv:=Yp hT hx hg;generalize hax : a.eval x = va at hv;cases hv with
  | imm hv => cases hv
  | inS => exact ⟨_,w,.inl (run hax),Step.pure hR (.imm (.int _ _))⟩
  | in0 => exact ⟨_,w,.inl (run hax),Step.pure hR (.imm (.int _ _))⟩
 ·rename_i v0 _ _ _ _ hg
  split at h
  ·rename_i hnil
   simp at h; subst h
   have hv:=Yp hT hx hg;generalize hax : a.eval x = va at hv;obtain ⟨base,rfl⟩:=nil_val hv hnil;exact ⟨_,w,.inl (run hax),Step.pure hR (.imm (.int _ _))⟩
  ·cases h
 ·cases h
theorem opdsOf_spec {nl : Bool} : ∀ {xs : List Operand} {ts : List TypeId} {as : List AOpd},opdsOf P nl xs ts = some as → as.length = xs.length∧∀ (i : Nat) x y,xs[i]? = some x → as[i]? = some y → ∃ t,opd P t x = some y
 | [],[],as,h => by simp [opdsOf] at h; subst h; simp
 | x :: xs,t :: ts,as,h => by
  simp only [opdsOf] at h;split at h
  ·rename_i y r hy hr
   simp at h; subst h
   obtain ⟨h1,h2⟩:=opdsOf_spec hr;refine ⟨by simp [h1],fun i a b ha hb => ?_⟩
   cases i with
   | zero => simp at ha hb; subst ha hb; exact ⟨_,hy⟩
   | succ i => simp at ha hb; exact h2 i a b ha hb
  ·cases h
 | [],_ :: _,as,h => by simp [opdsOf] at h
 | _ :: _,[],as,h => by simp [opdsOf] at h
theorem minmax_sound {isMax : Bool} {xs : Array Operand} {ts : Array TypeId} {as : List AOpd} (hT : TmpsOk σ S w T a) (hR : RowsOk P Γ Own σ S w R)
  (ho : o.op = .call ⟨.builtin (if isMax then .max else .min),xs,ts⟩) {nl : Bool} (hx : opdsOf P nl xs.toList ts.toList = some as) (call : CallF) (h : evalOp call s (getO T) R (.minmax isMax as) = some e) :
  ∃ v w',OpRuns P a o w v w'∧Step P Γ Own σ S w R s e v w':=by
 simp only [evalOp] at h;split at h
 ·rename_i n ns hg
  simp at h; subst h
  obtain ⟨h1,h2⟩:=mapO_spec hg;obtain ⟨h3,h4⟩:=opdsOf_spec hx;have hev : xs.toList.map a.eval = (n :: ns).map fun n=>Value.int .i64 n:=by
   apply List.ext_getElem?;intro i;by_cases hi : i < xs.toList.length
   ·have hia : i < as.length:=by omega
    have hin : i < (n :: ns).length:=by omega
    obtain ⟨t,ht⟩:=h4 i _ _ (List.getElem?_eq_getElem hi) (List.getElem?_eq_getElem hia);have:=h2 i _ _ (List.getElem?_eq_getElem hia) (List.getElem?_eq_getElem hin);unfold i64Of at this;split at this
    ·rename_i m hm
     simp only [Option.some.injEq] at this;have hv:=(Yp hT ht hm).int_inv;rw [List.getElem?_map,List.getElem?_map,List.getElem?_eq_getElem hi,List.getElem?_eq_getElem hin];simp only [Option.map_some,hv,this]
    ·cases this
   ·rw [List.getElem?_eq_none (by simp at hi ⊢; omega),List.getElem?_eq_none (by simp at hi h1 h3 ⊢; omega)]
  have hf : ∀ (l : List Int) (m : Int),((l.map fun n=>Value.int .i64 n).foldlM (if isMax then Builtin.max2 else Builtin.min2) (Value.int .i64 m) : Sem Value).run P w = .ok (.int .i64 (l.foldl (maxOf isMax) m)) w:=by
   intro l;induction l with
   | nil => intro m; simp
   | cons y l ih =>
    intro m;simp only [List.map_cons,List.foldlM_cons,Sem.run_bind,List.foldl_cons];cases isMax with
    | true =>
     simp only [if_true,Builtin.max2,Sem.run_pure,Result.andThen_ok] at ih ⊢;exact ih _
    | false =>
     simp only [Bool.false_eq_true,if_false,Builtin.min2,Sem.run_pure,Result.andThen_ok] at ih ⊢;exact ih _
  refine ⟨.int .i64 (ns.foldl (maxOf isMax) n),w,.inl ?_,Step.pure hR (.imm (.int _ _))⟩;have hm : (xs.map a.eval).toList = (Value.int .i64 n) :: ns.map fun n=>Value.int .i64 n:=by simpa using hev
  have:=hf ns n;cases isMax with
  | true =>
   simp only [if_true] at ho this;simp only [execOp,ho,resolve,invoke,builtin,pure_bind,Sem.run_bind];simp only [Builtin.max_,hm];simp [this]
  | false =>
   simp only [Bool.false_eq_true,if_false] at ho this;simp only [execOp,ho,resolve,invoke,builtin,pure_bind,Sem.run_bind];simp only [Builtin.min_,hm];simp [this]
 ·cases h
end
end Go.Abs
namespace Go.Abs
theorem Same.alloc (w : World) (o : Obj) : Same w (w.alloc o):=⟨rfl,rfl,rfl,by simp⟩
theorem Same.drew (w : World) : Same w w.drew:=⟨rfl,rfl,rfl,Nat.le_refl _⟩
theorem Same.setRow (w : World) (g : Nat) (cs : Array Value) : Same w (w.setRow g cs):=⟨rfl,rfl,rfl,by simp [World.setRow]⟩
theorem updR_cons (p : Nat × Option Row) (wr : List (Nat × Option Row)) (R : Nat → Option Row) : updR (p :: wr) R = updR [p] (updR wr R):=by
 obtain ⟨i,r⟩:=p; rfl
theorem getElem?_spliced {α : Type} (l vs : List α) (o i : Nat) (h : o + vs.length≤l.length) :
  (l.take o ++ vs ++ l.drop (o + vs.length))[i]? = if i < o then l[i]? else if i < o + vs.length then vs[i - o]? else l[i]?:=by
 have hto : (l.take o).length = o:=by simp; omega
 by_cases h1 : i < o
 ·rw [if_pos h1,List.getElem?_append_left (by simp [hto]; omega),List.getElem?_append_left (by omega),List.getElem?_take,if_pos h1]
 ·rw [if_neg h1]
  by_cases h2 : i < o + vs.length
  ·rw [if_pos h2,List.getElem?_append_left (by simp [hto]; omega),List.getElem?_append_right (by omega),hto]
  ·rw [if_neg h2,List.getElem?_append_right (by simp [hto]; omega),List.getElem?_drop]
   congr 1
   simp [hto]; omega
theorem flat_set {sz : Nat} {es : List AV} (h : ∀ e ∈ es,Elem sz e) {idx : Nat} (hi : idx < es.length) {e' : AV} (he : e'.cells.length = sz) (i : Nat) :
  (flat (es.set idx e'))[i]? = if i < idx * sz then (flat es)[i]? else if i < idx * sz + sz then e'.cells[i - idx * sz]? else (flat es)[i]?:=by
 have e1 : flat (es.set idx e') = (flat es).take (idx * sz) ++ e'.cells ++ (flat es).drop (idx * sz + e'.cells.length):=by
  rw [List.set_eq_take_append_cons_drop,if_pos hi,flat_append,flat_take h];simp only [List.append_assoc]
  congr 1
  have : flat (e' :: es.drop (idx + 1)) = e'.cells ++ flat (es.drop (idx + 1)):=by simp [flat]
  rw [this,flat_drop h,he]
  congr 2
  rw [Nat.add_mul]; omega
 have hl : idx * sz + e'.cells.length≤(flat es).length:=by
  rw [flat_length h,he];have : idx * sz + 1 * sz≤es.length * sz:=by rw [← Nat.add_mul]; exact Nat.mul_le_mul_right _ (by omega)
  omega
 rw [e1,getElem?_spliced _ _ _ _ hl,he]
section
variable {P : Program} {Γ : Gam} {Own : Nat → Prop} {σ : Ids} {S : Nat → Prop} {w : World} {R : Nat → Option Row} {s : Nat} {T : Nat → Option AV} {a : Act} {o : Oper} {e : Eff}
structure Free (Own : Nat → Prop) (σ : Ids) (w : World) (s : Nat) : Prop where
 ids : ∀ id,s≤id → id < s + siteWidth → σ id = none
 own : ∀ b,w.heap.size≤b → Own b
theorem Free.head (h : Free Own σ w s) : σ s = none:=h.ids s (Nat.le_refl _) (by simp [siteWidth])
theorem set_outside {l : Loc} : ∀ id,id < s ∨ s + siteWidth≤id → (σ.set s l) id = σ id:=by
 intro id h;refine Ids.set_other ?_;rintro rfl;have : siteWidth = 32:=rfl;omega
theorem new_box {u : Value} {y : AV} {t : TypeId} (hR : RowsOk P Γ Own σ S w R) (hF : Free Own σ w s) (hu : RelV σ S w u y) (hsc : ∀ c ∈ y.cells,c.scalar = true) :
  Step P Γ Own σ S w R s ⟨.ptr s 0 0,[(s,some (.box y.cells))],[]⟩ (.pointer (some ⟨w.heap.size,0,none⟩)) (w.alloc (.cells u.cells t)):=by
 obtain ⟨h1,h2⟩:=hu.cells hsc;have hle : σ.le (σ.set s (.row w.heap.size y.cells.length 1 1)):=Ids.le_set hF.head;obtain ⟨q1,q2⟩:=hR.alloc (w':=w.alloc (.cells u.cells t)) (l:=.row w.heap.size y.cells.length 1 1) (row:=.box y.cells) hF.head hF.own (fun b hb => List.mem_singleton.1 hb)
  (fun b hb => heap_alloc_old w _ b hb) (Same.alloc w _)
  ⟨w.heap.size,u.cells,t,Ids.set_self ..,heap_alloc_new w _,h1,hsc,fun i x hx => by
   have hlt : i < u.cells.size:=by have:=(List.getElem?_eq_some_iff.1 hx).1; omega
   exact ⟨u.cells[i],Array.getElem?_eq_getElem hlt,(h2 i _ x (Array.getElem?_eq_getElem hlt) hx).mono hle (fun _ h => h) fun b hb => heap_alloc_old w _ b (hR.old b hb)⟩⟩
 refine ⟨_,S,?_,q1,q2,set_outside⟩;have:=RelV.ptr (S:=S) (w:=w.alloc (.cells u.cells t)) s 0 0 w.heap.size y.cells.length 1 1 (Ids.set_self σ s _) (by omega)
 simpa using this
theorem new_arr {w' : World} {cs : Array Value} {t : TypeId} {sz c : Nat} {es : List AV} {rd : List Nat} (hR : RowsOk P Γ Own σ S w R) (hF : Free Own σ w s)
  (hw : ∀ b,b < w.heap.size → w'.heap[b]? = w.heap[b]?) (hS : Same w w') (hb : w'.heap[w.heap.size]? = some (.cells cs t (0,0))) (hs : cs.size = c * sz) (hl : es.length≤c) (hc : c≤maxLen)
  (h0 : 0 < sz) (he : ∀ e ∈ es,Elem sz e) (hf : ∀ (i : Nat) x,(flat es)[i]? = some x → ∃ v,cs[i]? = some v∧RelI S w v x) :
  Step P Γ Own σ S w R s ⟨.slice s 0 es.length,[(s,some (.arr sz es))],rd⟩ (.slice (some ⟨w.heap.size,0,none⟩) es.length c) w':=by
 obtain ⟨q1,q2⟩:=hR.alloc (w':=w') (l:=.row w.heap.size sz es.length c) (row:=.arr sz es) hF.head hF.own (fun b hb => List.mem_singleton.1 hb) hw hS
  (.inr ⟨w.heap.size,c,cs,t,Ids.set_self ..,hb,Nat.le_of_eq hs.symm,hl,hc,h0,he,fun i x hx => by
   obtain ⟨v,h1,h2⟩:=hf i x hx;exact ⟨v,h1,h2.mono (fun _ h => h) fun b hb => hw b (hR.old b hb)⟩⟩)
 refine ⟨_,S,?_,q1,q2,set_outside⟩;exact .slice s 0 es.length c w.heap.size sz es.length c _ (Ids.set_self ..) (by omega) (by omega) (by omega) (fun _=>by simp)
theorem Step.behind {ids : List Nat} {p : Nat × Option Row} {av : AV} {rd rd' : List Nat} {v : Value} {w' : World} (hR : RowsOk P Γ Own σ S w R)
  (h : Step P Γ Own σ (Locked σ S R ids) w (updR (gone ids) R) s ⟨av,[p],rd⟩ v w') : Step P Γ Own σ S w R s ⟨av,p :: gone ids,rd'⟩ v w':=by
 obtain ⟨σ',S',h1,h2,h3,h4⟩:=h;refine ⟨σ',S',h1,?_,(hR.lock ids).2.trans h3,h4⟩;rw [updR_cons]; exact h2
theorem alloc_sound {t : TypeId} {z : AV} (hR : RowsOk P Γ Own σ S w R) (hF : Free Own σ w s) (ho : o.op = .alloc t) (hz : zeroOf P t = some z) (call : CallF)
  (h : evalOp call s (getO T) R (.alloc z.cells) = some e) : ∃ v w',OpRuns P a o w v w'∧Step P Γ Own σ S w R s e v w':=by
 unfold zeroOf at hz;split at hz
 ·rename_i i hi
  split at hz
  ·rename_i zv hzv
   split at hz
   ·simp only [evalOp] at h
    split at h
    ·rename_i hsc
     simp at h; subst h
     exact ⟨_,_,.inl (by simp [execOp,ho,Instr.alloc,zeroValue,typeInfo,hi,hzv,newVar,newRow]; rfl),new_box hR hF (.imm (ofVal_rel hz)) (by simpa using hsc)⟩
    ·cases h
   ·cases hz
  ·cases hz
 ·cases hz
theorem box_sound {t : TypeId} {t1 : Option TypeId} {x : Operand} {ax : AOpd} (hT : TmpsOk σ S w T a) (hR : RowsOk P Γ Own σ S w R) (hF : Free Own σ w s) (ho : o.op = .box t x)
  (hx : opd P t1 x = some ax) (call : CallF) (h : evalOp call s (getO T) R (.box ax) = some e) : ∃ v w',OpRuns P a o w v w'∧Step P Γ Own σ S w R s e v w':=by
 simp only [evalOp] at h;split at h
 ·rename_i y hg
  split at h
  ·rename_i hsc
   simp at h; subst h
   exact ⟨_,_,.inl (by simp [execOp,ho,Instr.box,newVar,newRow]; rfl),new_box hR hF (Yp hT hx hg) (by simpa using hsc)⟩
  ·cases h
 ·cases h
theorem run_storeAt {t : TypeId} {n b k : Nat} {cur : Array Value} {te : TypeId} {v : Value} (hn : szOf P t = some n) (hb : w.heap[b]? = some (.cells cur te (0,0))) (hv : v.cells.size = n)
  (hl : k + n≤cur.size) (h1 : ∀ u ∈ v.cells,u.oneCell' = true) :
  (Instr.storeAt t (.pointer (some ⟨b,k,none⟩)) v).run P w = .ok () (w.setRow b (cur.toList.take k ++ v.cells.toList ++ cur.toList.drop (k + v.cells.toList.length)).toArray):=by
 simp only [szOf,Option.map_eq_some_iff] at hn;obtain ⟨i,hi,rfl⟩:=hn;have:=run_storeCells_at P b k te v.cells.toList 0 cur w hb (by simp; omega) (fun u hu => h1 u (by simpa using hu))
 simp only [Nat.add_zero] at this;simp only [Instr.storeAt,Instr.sureAddr,pure_bind,storeVar];simp [sizeOf,typeInfo,hi,hv,this]
theorem cells_oneCell {v : Value} {cs : List AV} (hl : v.cells.size = cs.length) (hr : ∀ (i : Nat) x y,v.cells[i]? = some x → cs[i]? = some y → RelV σ S w x y) (hsc : ∀ c ∈ cs,c.scalar = true) :
  ∀ u ∈ v.cells,u.oneCell' = true:=by
 intro u hu;obtain ⟨i,hi,rfl⟩:=Array.getElem_of_mem hu;have hi' : i < cs.length:=by omega
 exact (hr i _ _ (Array.getElem?_eq_getElem hi) (List.getElem?_eq_getElem hi')).oneCell (hsc _ (List.getElem_mem hi'))
theorem TabAt.put {w' : World} {b0 sz c0 : Nat} {es : List AV} {inn0 : List (Option (Nat × Nat))} {p b' c' j q : Nat} {xs : List AV} {y : AV} {cs' : Array Value} {t1 : TypeId} (ht : TabAt w (.tab b0 sz es.length c0 inn0) sz es) (ho : inn0[p]? = some (some (b',c')))
  (hx : (flat es)[p]? = some (.own q xs)) (hj : j < xs.length) (hy : y.plain1 = true) (hh : w.heap[b']? = some (.cells cs' t1 (0,0)))
  (hw : ∀ b,b ≠ b' → w'.heap[b]? = w.heap[b]?) (hw' : w'.heap[b']? = some (.cells (cs'.toList.take j ++ [y.toVal] ++ cs'.toList.drop (j + 1)).toArray t1 (0,0))) :
  TabAt w' (.tab b0 sz es.length c0 inn0) sz (tabSet p (.own q (xs.set j y)) es):=by
 obtain ⟨b1,c1,inn1,cells,t',e1,g2,g3,g4,g5,g6,g7,g8,g9,g10⟩:=ht;simp only [Loc.tab.injEq] at e1;obtain ⟨rfl,_,_,rfl,rfl⟩:=e1;obtain ⟨s1,s2,s3⟩:=tabSet_spec (c:=.own q (xs.set j y)) rfl es p;have hnd:=g9;simp only [Loc.blocks,List.nodup_cons] at hnd;have hne : b0 ≠ b':=by
  rintro rfl;exact hnd.1 (List.mem_filterMap.2 ⟨_,List.mem_of_getElem? ho,rfl⟩)
 refine ⟨b0,c0,inn0,cells,t',by rw [s1],by rw [hw b0 hne]; exact g2,g3,by rw [s1]; exact g4,g5,g6,s3 sz g7,by rw [s1]; exact g8,g9,fun i x o hxi hoi => ?_⟩
 rw [s2,List.getElem?_set] at hxi;by_cases e : p = i
 ·subst e
  rw [if_pos rfl] at hxi;split at hxi
  ·simp only [Option.some.injEq] at hxi; subst hxi
   rw [ho] at hoi; cases hoi
   obtain ⟨v,hv,hc⟩:=g10 p _ _ hx ho;refine ⟨v,hv,?_⟩;rcases hc with ⟨q1,_⟩ | ⟨ys,hys,q2,⟨q3,_⟩ | ⟨b1,c1,cs1,t2,q0,r2,q3,q4,q5,q6,q7⟩⟩
   ·simp [AV.plain1] at q1
   ·cases q3
   ·cases q0
    simp only [AV.own.injEq] at hys;obtain ⟨rfl,rfl⟩:=hys;rw [hh] at q3;cases q3;have hjs : j < cs'.size:=by omega
    refine .inr ⟨xs.set j y,rfl,fun z hz => ?_,.inr ⟨b',c',_,t1,rfl,by rw [List.length_set]; exact r2,hw',by rw [List.length_set]; exact q4,?_,q6,fun k z hz => ?_⟩⟩
    ·rcases List.mem_or_eq_of_mem_set hz with hz | rfl
     ·exact q2 z hz
     ·exact hy
    ·simp; omega
    ·rw [List.getElem?_set] at hz
     simp only [List.getElem?_toArray];have hsp:=getElem?_spliced cs'.toList [y.toVal] j k (by simp; omega)
     rw [show j + [y.toVal].length = j + 1 from rfl] at hsp
     rw [hsp];by_cases e2 : j = k
     ·subst e2
      rw [if_pos rfl,if_pos hj] at hz;cases hz;rw [if_neg (by omega),if_pos (by omega),Nat.sub_self]
      rfl
     ·rw [if_neg e2] at hz
      by_cases e3 : k < j
      ·rw [if_pos e3,Array.getElem?_toList]; exact q7 k z hz
      ·rw [if_neg e3,if_neg (by omega),Array.getElem?_toList]; exact q7 k z hz
  ·cases hxi
 ·rw [if_neg e] at hxi
  obtain ⟨v,hv,hc⟩:=g10 i x o hxi hoi;refine ⟨v,hv,hc.keep fun b2 c2 eo => hw b2 ?_⟩
  rintro rfl;subst eo;exact e (inn_inj hnd.2 ho hoi)
theorem store_sound {t : TypeId} {n : Nat} {t1 t2 : Option TypeId} {x y : Operand} {ax ay : AOpd} (hT : TmpsOk σ S w T a) (hR : RowsOk P Γ Own σ S w R) (ho : o.op = .store t x y)
  (hn : szOf P t = some n) (hx : opd P t1 x = some ax) (hy : opd P t2 y = some ay) (h : evStore (getO T) R n ax ay = some e) : ∃ v w',OpRuns P a o w v w'∧Step P Γ Own σ S w R s e v w':=by
 have runs : ∀ {w' : World},(Instr.storeAt t (a.eval x) (a.eval y)).run P w = .ok () w' → OpRuns P a o w undef w':=fun h=>.inr ⟨by simp [execOp,ho,h],rfl⟩
 have hund : ∀ {σ' : Ids} {S' : Nat → Prop} {w' : World},RelV σ' S' w' undef (.tuple []):=.tuple #[] [] rfl (by simp)
 unfold evStore at h;split at h
 ·rename_i id idx off v hgx hgy
  have hpx:=Yp hT hx hgx;have hvy:=Yp hT hy hgy;generalize hax : a.eval x = va at hpx;generalize hay : a.eval y = vy at hvy;split at h
  ·rename_i hc
   obtain ⟨hlen,hsc⟩:=hc;have hsc' : ∀ c ∈ v.cells,c.scalar = true:=by simpa using hsc
   obtain ⟨c1,c2⟩:=hvy.cells hsc';have hone:=cells_oneCell c1 c2 hsc';split at h
   ·rename_i sz es hr
    split at h
    ·rename_i el hel
     split at h
     ·rename_i hoff
      split at h
      ·rename_i xs ids hfz
       split at h
       ·rename_i el' hre
        split at h
        ·cases h
        ·rename_i hnid
         simp only [Option.some.injEq] at h; subst h
         have hnid' : id ∉ ids:=by simpa using hnid
         cases hpx with
         | imm hv => cases hv
         | ptr id idx off b sz' n' c hσ h1' =>
          rcases hR.ok id _ hr with ⟨hk,_⟩ | ⟨b',c',cur,te,hk,hh,hs,hn',hmax,hp',hels,hf⟩
          ·rw [hk] at hσ; cases hσ
          ·have q:=hk.symm.trans hσ
           simp only [Option.some.injEq,Loc.row.injEq] at q;obtain ⟨rfl,rfl,rfl,rfl⟩:=q;have hidx : idx < es.length:=(List.getElem?_eq_some_iff.1 hel).1;have hee:=hels el (List.mem_of_getElem? hel);obtain ⟨f1,f2⟩:=frzL_spec hfz;have hfit : idx * sz + off + n≤cur.size:=by
            have : idx * sz + 1 * sz≤c' * sz:=by rw [← Nat.add_mul]; exact Nat.mul_le_mul_right _ (by omega)
            have:=hee.1;omega
           have hrun:=run_storeAt (P:=P) (w:=w) (v:=vy) hn hh (by omega) hfit hone
           refine ⟨undef,_,runs (by rw [hax,hay]; exact hrun),?_⟩
           have hxsc : ∀ c ∈ xs,c.scalar = true:=by
            intro c hc;obtain ⟨j,hj,rfl⟩:=List.getElem_of_mem hc;have hj' : j < v.cells.length:=by omega
            obtain ⟨ids',hi,_⟩:=f2 j _ _ (List.getElem?_eq_getElem hj') (List.getElem?_eq_getElem hj);exact frz_scalar hi (hsc' _ (List.getElem_mem hj'))
           have hcel' : el'.cells = splice el.cells off n xs:=by
            unfold reElem at hre;split at hre
            ·simp at hre; subst hre; rfl
            ·split at hre
             ·rename_i c hcc
              simp only [Option.some.injEq] at hre; subst hre
              rw [hcc];refine AV.scalar_cells ?_;have hmem : c ∈ splice el.cells off n xs:=by rw [hcc]; simp
              unfold splice at hmem;simp only [List.mem_append] at hmem;rcases hmem with (hm | hm) | hm
              ·exact hee.2 _ (List.mem_of_mem_take hm)
              ·exact hxsc _ hm
              ·exact hee.2 _ (List.mem_of_mem_drop hm)
             ·cases hre
           have hxl : xs.length = n:=by omega
           have hspl : splice el.cells off n xs = el.cells.take off ++ xs ++ el.cells.drop (off + xs.length):=by rw [hxl]; rfl
           have hel'len : el'.cells.length = sz:=by
            rw [hcel',hspl];have:=hee.1;simp; omega
           have hel'e : Elem sz el':=⟨hel'len,by
            intro c hc;rw [hcel'] at hc;unfold splice at hc;simp only [List.mem_append] at hc;rcases hc with (hm | hm) | hm
            ·exact hee.2 _ (List.mem_of_mem_take hm)
            ·exact hxsc _ hm
            ·exact hee.2 _ (List.mem_of_mem_drop hm)⟩
           have hL:=hR.lock ids;have hr' : updR (gone ids) R id = some (.arr sz es):=by rw [updR_gone,if_neg hnid']; exact hr
           obtain ⟨t1,t2⟩:=hL.1.turn (w':=w.setRow b' (cur.toList.take (idx * sz + off) ++ vy.cells.toList ++ cur.toList.drop (idx * sz + off + vy.cells.toList.length)).toArray)
            (row:=.arr sz (es.set idx el')) hr' (has_row hk) (fun b hb => setRow_other w b' b _ hb) (Same.setRow ..) (fun hkeep=>by
             refine .inr ⟨b',c',_,te,by simpa using hk,setRow_heap w b' cur _ te _ hh,?_,by simpa using hn',hmax,hp',?_,fun i z hz => ?_⟩
             ·simp; omega
             ·intro y hy
              rcases List.mem_or_eq_of_mem_set hy with hy | rfl
              ·exact hels y hy
              ·exact hel'e
             ·rw [flat_set hels hidx hel'len] at hz
              have hcl : idx * sz + off + vy.cells.toList.length≤cur.toList.length:=by simp; omega
              simp only [List.getElem?_toArray];rw [getElem?_spliced _ _ _ _ hcl];have hvl : vy.cells.toList.length = n:=by simp; omega
              have old : ∀ {z : AV},(flat es)[i]? = some z → ∃ v,cur.toList[i]? = some v∧RelI (Locked σ S R ids) (w.setRow b' (cur.toList.take (idx * sz + off) ++ vy.cells.toList ++ cur.toList.drop (idx * sz + off + vy.cells.toList.length)).toArray) v z:=by
               intro z hz;obtain ⟨v',hv',hrel⟩:=hf i z hz;exact ⟨v',by rw [Array.getElem?_toList]; exact hv',(hrel.mono (S':=Locked σ S R ids) (fun _ h => .inl h) (fun _ _ => rfl)).mono (fun _ h => h) hkeep⟩
              by_cases hi1 : i < idx * sz
              ·rw [if_pos hi1] at hz
               rw [if_pos (by omega)]
               exact old hz
              ·rw [if_neg hi1] at hz
               by_cases hi2 : i < idx * sz + sz
               ·rw [if_pos hi2] at hz
                rw [hcel',hspl,getElem?_spliced _ _ _ _ (by omega)] at hz
                have hget:=flat_get hels hel (j:=i - idx * sz) (by omega)
                rw [show idx * sz + (i - idx * sz) = i by omega] at hget
                by_cases hi3 : i - idx * sz < off
                ·rw [if_pos hi3] at hz
                 rw [if_pos (by omega)]
                 exact old (by rw [hget]; exact hz)
                ·rw [if_neg hi3] at hz
                 by_cases hi4 : i - idx * sz < off + xs.length
                 ·rw [if_pos hi4] at hz
                  rw [if_neg (by omega),if_pos (by omega)]
                  have hj : i - idx * sz - off < v.cells.length:=by omega
                  obtain ⟨ids',hi',hm⟩:=f2 _ _ _ (List.getElem?_eq_getElem hj) hz;have hj' : i - idx * sz - off < vy.cells.size:=by omega
                  refine ⟨vy.cells[i - idx * sz - off],?_,?_⟩
                  ·rw [show i - (idx * sz + off) = i - idx * sz - off by omega,Array.getElem?_toList]
                   exact Array.getElem?_eq_getElem hj'
                  ·have:=frz_sound hR _ hi' (c2 _ _ _ (Array.getElem?_eq_getElem hj') (List.getElem?_eq_getElem hj))
                   exact (this.lockMono hm).mono (fun _ h => h) hkeep
                 ·rw [if_neg hi4] at hz
                  rw [if_neg (by omega),if_neg (by omega)]
                  exact old (by rw [hget]; exact hz)
               ·rw [if_neg hi2] at hz
                have hle:=hee.1;rw [if_neg (by omega),if_neg (by omega)]
                exact old hz)
           exact Step.behind hR (rd:=[]) ⟨σ,Locked σ S R ids,hund,t1,t2,fun _ _ => rfl⟩
       ·cases h
      ·cases h
     ·cases h
    ·cases h
   ·rename_i cs hr
    split at h
    ·rename_i hz
     obtain ⟨rfl,hoff⟩:=hz;simp only [Option.some.injEq] at h; subst h
     cases hpx with
     | imm hv => cases hv
     | ptr id idx off b sz' n' c hσ h1' =>
      obtain ⟨b',cur,te,hk,hh,hs,hscb,hrel⟩:=hR.ok id _ hr;have q:=hk.symm.trans hσ;simp only [Option.some.injEq,Loc.row.injEq] at q;obtain ⟨rfl,rfl,rfl,rfl⟩:=q;have hrun:=run_storeAt (P:=P) (w:=w) (v:=vy) (k:=off) hn hh (by omega) (by omega) hone
      refine ⟨undef,_,runs (by rw [hax,hay,Nat.zero_mul,Nat.zero_add]; exact hrun),?_⟩
      have hvl : vy.cells.toList.length = n:=by simp; omega
      have hspl : splice cs off n v.cells = cs.take off ++ v.cells ++ cs.drop (off + v.cells.length):=by rw [hlen]; rfl
      have hslen : (splice cs off n v.cells).length = cs.length:=by rw [hspl]; simp; omega
      obtain ⟨t1,t2⟩:=hR.turn (w':=w.setRow b' (cur.toList.take off ++ vy.cells.toList ++ cur.toList.drop (off + vy.cells.toList.length)).toArray)
       (row:=.box (splice cs off n v.cells)) hr (has_row hk) (fun b hb => setRow_other w b' b _ hb) (Same.setRow ..) (fun hkeep=>by
        refine ⟨b',_,te,by rw [hslen]; exact hk,setRow_heap w b' cur _ te _ hh,by rw [hslen]; simp; omega,?_,fun i z hz => ?_⟩
        ·intro c hc
         unfold splice at hc;simp only [List.mem_append] at hc;rcases hc with (hm | hm) | hm
         ·exact hscb _ (List.mem_of_mem_take hm)
         ·exact hsc' _ hm
         ·exact hscb _ (List.mem_of_mem_drop hm)
        ·rw [hspl,getElem?_spliced _ _ _ _ (by omega)] at hz
         simp only [List.getElem?_toArray];rw [getElem?_spliced _ _ _ _ (by simp; omega)]
         have old : ∀ {z : AV},cs[i]? = some z → ∃ v,cur.toList[i]? = some v∧RelV σ S (w.setRow b' (cur.toList.take off ++ vy.cells.toList ++ cur.toList.drop (off + vy.cells.toList.length)).toArray) v z:=by
          intro z hz;obtain ⟨v',hv',hr'⟩:=hrel i z hz;exact ⟨v',by rw [Array.getElem?_toList]; exact hv',hr'.mono (Ids.le_refl σ) (fun _ h => h) hkeep⟩
         by_cases hi1 : i < off
         ·rw [if_pos hi1] at hz ⊢; exact old hz
         ·rw [if_neg hi1] at hz ⊢
          by_cases hi2 : i < off + v.cells.length
          ·rw [if_pos hi2] at hz
           rw [if_pos (by omega)]
           have hj' : i - off < vy.cells.size:=by omega
           exact ⟨vy.cells[i - off],by rw [Array.getElem?_toList]; exact Array.getElem?_eq_getElem hj',(c2 _ _ _ (Array.getElem?_eq_getElem hj') hz).mono (Ids.le_refl σ) (fun _ h => h) hkeep⟩
          ·rw [if_neg hi2] at hz
           rw [if_neg (by omega)]
           exact old hz)
      exact ⟨σ,S,hund,t1,t2,fun _ _ => rfl⟩
    ·cases h
   ·cases h
  ·cases h
 ·rename_i id p j v hgx hgy
  have hpx:=Yp hT hx hgx;have hvy:=Yp hT hy hgy;generalize hax : a.eval x = va at hpx;generalize hay : a.eval y = vy at hvy;split at h
  ·rename_i sz es hr
   split at h
   ·rename_i q xs hxp
    split at h
    ·rename_i hc
     obtain ⟨rfl,hj,hpl⟩:=hc;simp only [Option.some.injEq] at h; subst h
     cases hpx with
     | imm hv => cases hv
     | inP _ _ _ b sz' n' c inn b' c' hσ h1' =>
      rcases hR.ok id _ hr with ⟨hk,_⟩ | ⟨l,hk,ht⟩
      ·rw [hk] at hσ; cases hσ
      ·have ht0:=ht
       obtain ⟨b0,c0,inn0,cells,t',rfl,g2,g3,g4,g5,g6,g7,g8,g9,g10⟩:=ht;rw [hk] at hσ;simp only [Option.some.injEq,Loc.tab.injEq] at hσ;obtain ⟨rfl,rfl,rfl,rfl,rfl⟩:=hσ;obtain ⟨v0,_,htc⟩:=g10 p _ _ hxp h1';rcases htc with ⟨q1,_⟩ | ⟨ys,hys,q2,⟨q3,_⟩ | ⟨b1,c1,cs',t1,q0,_,q3,q4,q5,q6,q7⟩⟩
       ·simp [AV.plain1] at q1
       ·cases q3
       ·cases q0
        simp only [AV.own.injEq] at hys;obtain ⟨rfl,rfl⟩:=hys;have hvv:=plain1_val hpl hvy;subst hvv;have hcv : v.toVal.cells = #[v.toVal]:=by cases v <;> simp [AV.plain1] at hpl <;> rfl
        have hrun:=run_storeAt (P:=P) (w:=w) (v:=v.toVal) (k:=j) hn q3 (by rw [hcv]; rfl) (by omega) (fun u hu => by
         rw [hcv] at hu;simp at hu; subst hu
         cases v <;> simp [AV.plain1] at hpl <;> rfl)
        refine ⟨undef,_,runs (by rw [hax,hay]; exact hrun),?_⟩
        rw [hcv];have hb' : Loc.has (σ id) b':=⟨_,hk,by
         simp only [Loc.blocks,List.mem_cons,List.mem_filterMap];exact .inr ⟨_,List.mem_of_getElem? h1',rfl⟩⟩
        obtain ⟨t2,t3⟩:=hR.turn (w':=w.setRow b' (cs'.toList.take j ++ (#[v.toVal] : Array Value).toList ++ cs'.toList.drop (j + (#[v.toVal] : Array Value).toList.length)).toArray)
         (row:=.tab sz (tabSet p (.own 1 (xs.set j v)) es)) hr hb' (fun b hb => setRow_other w b' b _ hb) (Same.setRow ..) (fun hkeep =>
          .inr ⟨_,hk,ht0.put h1' hxp hj hpl q3 (fun b hb => setRow_other w b' b _ hb) (setRow_heap w b' cs' _ t1 _ q3)⟩)
        exact ⟨σ,S,hund,t2,t3,fun _ _ => rfl⟩
    ·cases h
   ·cases h
  ·cases h
 ·cases h
end
end Go.Abs
namespace Go.Abs
theorem fold_set (off : Nat) : ∀ (l : List Value) (k : Nat) (cells : Array Value),off + k + l.length≤cells.size →
  ((l.zipIdx k).foldl (fun (cs : Array Value) (p : Value × Nat) => cs.setIfInBounds (off + p.2) p.1) cells).size = cells.size ∧
  ∀ i : Nat,((l.zipIdx k).foldl (fun (cs : Array Value) (p : Value × Nat) => cs.setIfInBounds (off + p.2) p.1) cells)[i]? =
   if i < off + k then cells[i]? else if i < off + k + l.length then l[i - (off + k)]? else cells[i]?
 | [],k,cells,_ => by
  refine ⟨rfl,fun i=>?_⟩
  simp only [List.zipIdx_nil,List.foldl_nil,List.length_nil,Nat.add_zero];by_cases h : i < off + k <;> simp [h]
 | v :: l,k,cells,h => by
  simp only [List.zipIdx_cons,List.foldl_cons];have h' : off + (k + 1) + l.length≤(cells.setIfInBounds (off + k) v).size:=by simp at h ⊢; omega
  obtain ⟨h1,h2⟩:=fold_set off l (k + 1) _ h';refine ⟨by rw [h1]; simp,fun i=>?_⟩
  rw [h2 i];have hk : off + k < cells.size:=by simp at h; omega
  by_cases c1 : i < off + k
  ·rw [if_pos (by omega),if_pos c1,Array.getElem?_setIfInBounds_ne (by omega)]
  ·rw [if_neg c1]
   by_cases c2 : i = off + k
   ·subst c2
    rw [if_pos (by omega),if_pos (by simp)]
    simp [hk]
   ·rw [if_neg (by omega)]
    by_cases c3 : i < off + (k + 1) + l.length
    ·rw [if_pos c3,if_pos (by simp; omega)]
     rw [show i - (off + k) = i - (off + (k + 1)) + 1 by omega,List.getElem?_cons_succ]
    ·rw [if_neg c3,if_neg (by simp; omega),Array.getElem?_setIfInBounds_ne (by omega)]
theorem filled (off : Nat) (vs cells : Array Value) (h : off + vs.size≤cells.size) :
  (vs.zipIdx.foldl (fun cs (p : Value × Nat) => cs.setIfInBounds (off + p.2) p.1) cells).size = cells.size ∧
  ∀ i : Nat,(vs.zipIdx.foldl (fun cs (p : Value × Nat) => cs.setIfInBounds (off + p.2) p.1) cells)[i]? =
   if i < off then cells[i]? else if i < off + vs.size then vs[i - off]? else cells[i]?:=by
 have:=fold_set off vs.toList 0 cells (by simpa using h)
 rw [← Array.foldl_toList,Array.toList_zipIdx];simpa using this
section
variable {P : Program} {Γ : Gam} {Own : Nat → Prop} {σ : Ids} {S : Nat → Prop} {w : World} {R : Nat → Option Row} {s : Nat} {T : Nat → Option AV} {a : Act} {o : Oper} {e : Eff}
def CellsOk (Rel : Value → AV → Prop) (cells : Array Value) (cs : List AV) : Prop :=
 cells.size = cs.length∧∀ (i : Nat) v c,cells[i]? = some v → cs[i]? = some c → Rel v c
theorem CellsOk.filled {Rel : Value → AV → Prop} {cells vs : Array Value} {cs xs : List AV} {off : Nat} (h : CellsOk Rel cells cs) (hv : CellsOk Rel vs xs) (hl : off + xs.length≤cs.length) :
  CellsOk Rel (vs.zipIdx.foldl (fun cs (p : Value × Nat) => cs.setIfInBounds (off + p.2) p.1) cells) (splice cs off xs.length xs):=by
 obtain ⟨h1,h2⟩:=Abs.filled off vs cells (by rw [h.1,hv.1]; exact hl)
 have hs : splice cs off xs.length xs = cs.take off ++ xs ++ cs.drop (off + xs.length):=rfl;refine ⟨by rw [h1,h.1,hs]; simp; omega,fun i v c hi hc => ?_⟩
 rw [h2 i,hv.1] at hi;rw [hs,getElem?_spliced _ _ _ _ hl] at hc;by_cases c1 : i < off
 ·rw [if_pos c1] at hi hc; exact h.2 i v c hi hc
 ·rw [if_neg c1] at hi hc
  by_cases c2 : i < off + xs.length
  ·rw [if_pos c2] at hi hc; exact hv.2 _ v c hi hc
  ·rw [if_neg c2] at hi hc; exact h.2 i v c hi hc
theorem fill_parts {place : Nat → Option (Nat × Nat)} : ∀ {parts : List (Nat × Value)} {aparts : List (Nat × Nat × AV)} {cells : Array Value} {cs cs' : List AV},
  parts.length = aparts.length → (∀ (i : Nat) p q,parts[i]? = some p → aparts[i]? = some q → place p.1 = some (q.1,q.2.1)∧RelV σ S w p.2 q.2.2) →
  CellsOk (RelV σ S w) cells cs → setParts cs aparts = some cs' → ∃ cells',Instr.fill place cells parts = some cells'∧CellsOk (RelV σ S w) cells' cs'
 | [],[],cells,cs,cs',_,_,hc,h => by simp [setParts] at h; subst h; exact ⟨cells,rfl,hc⟩
 | [],_ :: _,_,_,_,hl,_,_,_ => by simp at hl
 | _ :: _,[],_,_,_,hl,_,_,_ => by simp at hl
 | (i,v) :: parts,(off,n,av) :: aparts,cells,cs,cs',hl,hp,hc,h => by
  obtain ⟨hpl,hrel⟩:=hp 0 _ _ rfl rfl;simp only [setParts] at h;split at h
  ·rename_i hcond
   obtain ⟨h1,h2,h3⟩:=hcond;have hvc:=hrel.cells (by simpa using h3)
   have hvc' : v.cells.size = n:=by rw [hvc.1,h1]
   have hstep:=CellsOk.filled (off:=off) hc hvc (by rw [h1]; exact h2)
   rw [h1] at hstep;obtain ⟨cells',r1,r2⟩:=fill_parts (place:=place) (by simpa using hl) (fun i p q hp' hq' => hp (i + 1) p q (by simpa using hp') (by simpa using hq')) hstep h
   refine ⟨cells',?_,r2⟩;have hsz:=hc.1;simp only [Instr.fill];rw [hpl];simp only [];rw [if_neg (by simp [hvc',hsz]; omega)]
   exact r1
  ·cases h
theorem build_struct_sound {k : Bool} {t : TypeId} {parts : Array (Nat × Operand)} {fields : Array Field} {z : AV} {ps : List (Nat × Nat × AOpd)} (hT : TmpsOk σ S w T a) (hR : RowsOk P Γ Own σ S w R)
  (ho : o.op = .build t parts) (ht : P.underlying t = some (.struct fields)) (hz : zeroK P k t = some z) (hzs : ∀ c ∈ z.cells,c.scalar = true)
  (hps : mapO (fun p : Nat × Operand => match fields[p.1]? with
    | some f => match opd P (some f.type) p.2,szOf P f.type with
     | some a,some n => some (f.offset,n,a)
     | _,_ => none
    | _ => none) parts.toList = some ps) (hall : (fields.all fun f=>(szOf P f.type).isSome) = true)
  (call : CallF) (h : evalOp call s (getO T) R (.build z.cells ps) = some e) : ∃ v w',OpRuns P a o w v w'∧Step P Γ Own σ S w R s e v w':=by
 unfold zeroK at hz;split at hz
 ·rename_i i hi
  split at hz
  ·rename_i zv hzv
   split at hz
   ·simp only [evalOp] at h
    split at h
    ·rename_i aps haps
     split at h
     ·rename_i cs hcs
      simp at h; subst h
      obtain ⟨l1,l2⟩:=mapO_spec hps;obtain ⟨l3,l4⟩:=mapO_spec haps;have hzc : CellsOk (RelV σ S w) zv.cells z.cells:=(RelV.imm (ofValK_rel hz)).cells hzs;have hplaces : (fields.mapM fun f=>(do pure (f.offset,← sizeOf f.type) : Sem (Nat × Nat))).run P w = .ok (fields.map fun f=>(f.offset,((P.info? f.type).map (·.size)).getD 0)) w:=by
       rw [Array.mapM_eq_mapM_toList];have : ∀ l : List Field,(∀ f ∈ l,(szOf P f.type).isSome = true) → (l.mapM fun f=>(do pure (f.offset,← sizeOf f.type) : Sem (Nat × Nat))).run P w = .ok (l.map fun f=>(f.offset,((P.info? f.type).map (·.size)).getD 0)) w:=by
        intro l;induction l with
        | nil => intro _; simp
        | cons f l ih =>
         intro hl;have hf:=hl f (List.mem_cons_self ..);simp only [szOf,Option.isSome_map] at hf;obtain ⟨inf,hinf⟩:=Option.isSome_iff_exists.1 hf;have ih':=ih fun f hf => hl f (List.mem_cons_of_mem _ hf)
         rw [List.mapM_cons];simp only [Sem.run_bind,sizeOf,typeInfo,run_program,Result.andThen_ok,hinf,Sem.run_pure] at ih' ⊢;rw [ih'];simp [hinf]
       have:=this fields.toList (fun f hf => by
        rw [Array.all_eq_true_iff_forall_mem] at hall;exact hall f (by simpa using hf))
       simp only [Sem.run_map];rw [this];simp only [Result.andThen_ok]
       congr 1
       apply Array.ext';simp
      obtain ⟨cells',r1,r2⟩:=fill_parts (σ:=σ) (S:=S) (w:=w) (place:=((fields.map fun f=>(f.offset,((P.info? f.type).map (·.size)).getD 0))[·]?)) (parts:=(parts.map fun p=>(p.1,a.eval p.2)).toList) (aparts:=aps)
       (by simp [l3,l1]) (fun i p q hp hq => by
        simp only [Array.toList_map,List.getElem?_map,Option.map_eq_some_iff] at hp;obtain ⟨p0,hp0,rfl⟩:=hp;have hi1 : i < ps.length:=by have:=(List.getElem?_eq_some_iff.1 hp0).1; omega
        have e1:=l2 i _ _ hp0 (List.getElem?_eq_getElem hi1);have e2:=l4 i _ _ (List.getElem?_eq_getElem hi1) hq;generalize ps[i] = pi at e1 e2;split at e1
        ·rename_i f hf
         split at e1
         ·rename_i ao n hao hn
          simp only [Option.some.injEq] at e1;subst e1;simp only [bdPart] at e2;split at e2
          ·rename_i v hv
           simp only [Option.some.injEq] at e2;subst e2;refine ⟨?_,Yp hT hao hv⟩;simp only [szOf,Option.map_eq_some_iff] at hn;obtain ⟨inf,hinf,rfl⟩:=hn;simp [hf,hinf]
          ·cases e2
         ·cases e1
        ·cases e1) hzc hcs
      refine fin_pure hR (sem:=Instr.build t (parts.map fun (i,x) => (i,a.eval x))) (by simp [execOp,ho]) (u:=.agg cells') ?_ (.agg _ _ r2.1 r2.2)
      unfold Instr.build;simp only [Sem.run_bind,zeroValue,typeInfo,run_program,Result.andThen_ok,hi,Sem.run_pure,hzv,run_underlying ht];simp only [Sem.run_bind,hplaces,Result.andThen_ok];have : (parts.map fun (x : Nat × Operand) => match x with | (i,x) => (i,a.eval x)).toList = (parts.map fun p=>(p.1,a.eval p.2)).toList:=rfl
      rw [this,r1];rfl
     ·cases h
    ·cases h
   ·cases hz
  ·cases hz
 ·cases hz
theorem build_array_sound {k : Bool} {t el : TypeId} {len n : Nat} {parts : Array (Nat × Operand)} {z : AV} {ps : List (Nat × Nat × AOpd)} (hT : TmpsOk σ S w T a) (hR : RowsOk P Γ Own σ S w R)
  (ho : o.op = .build t parts) (ht : P.underlying t = some (.array len el)) (hz : zeroK P k t = some z) (hzs : ∀ c ∈ z.cells,c.scalar = true) (hn : szOf P el = some n)
  (hps : mapO (fun p : Nat × Operand => match opd P (some el) p.2 with
    | some a => some (p.1 * n,n,a)
    | none => none) parts.toList = some ps)
  (call : CallF) (h : evalOp call s (getO T) R (.build z.cells ps) = some e) : ∃ v w',OpRuns P a o w v w'∧Step P Γ Own σ S w R s e v w':=by
 unfold zeroK at hz;split at hz
 ·rename_i i hi
  split at hz
  ·rename_i zv hzv
   split at hz
   ·simp only [evalOp] at h
    split at h
    ·rename_i aps haps
     split at h
     ·rename_i cs hcs
      simp at h; subst h
      obtain ⟨l1,l2⟩:=mapO_spec hps;obtain ⟨l3,l4⟩:=mapO_spec haps;have hzc : CellsOk (RelV σ S w) zv.cells z.cells:=(RelV.imm (ofValK_rel hz)).cells hzs;obtain ⟨cells',r1,r2⟩:=fill_parts (σ:=σ) (S:=S) (w:=w) (place:=fun i=>some (i * n,n)) (parts:=(parts.map fun p=>(p.1,a.eval p.2)).toList) (aparts:=aps)
       (by simp [l3,l1]) (fun i p q hp hq => by
        simp only [Array.toList_map,List.getElem?_map,Option.map_eq_some_iff] at hp;obtain ⟨p0,hp0,rfl⟩:=hp;have hi1 : i < ps.length:=by have:=(List.getElem?_eq_some_iff.1 hp0).1; omega
        have e1:=l2 i _ _ hp0 (List.getElem?_eq_getElem hi1);have e2:=l4 i _ _ (List.getElem?_eq_getElem hi1) hq;generalize ps[i] = pi at e1 e2;split at e1
        ·rename_i ao hao
         simp only [Option.some.injEq] at e1;subst e1;simp only [bdPart] at e2;split at e2
         ·rename_i v hv
          simp only [Option.some.injEq] at e2;subst e2;exact ⟨rfl,Yp hT hao hv⟩
         ·cases e2
        ·cases e1) hzc hcs
      refine fin_pure hR (sem:=Instr.build t (parts.map fun (i,x) => (i,a.eval x))) (by simp [execOp,ho]) (u:=.agg cells') ?_ (.agg _ _ r2.1 r2.2)
      simp only [szOf,Option.map_eq_some_iff] at hn;obtain ⟨inf,hinf,rfl⟩:=hn;unfold Instr.build;simp only [Sem.run_bind,zeroValue,typeInfo,run_program,Result.andThen_ok,hi,Sem.run_pure,hzv,run_underlying ht];have : (parts.map fun (x : Nat × Operand) => match x with | (i,x) => (i,a.eval x)).toList = (parts.map fun p=>(p.1,a.eval p.2)).toList:=rfl
      simp only [Sem.run_bind,sizeOf,typeInfo,run_program,Result.andThen_ok,hinf,Sem.run_pure];rw [this,r1];rfl
     ·cases h
    ·cases h
   ·cases hz
  ·cases hz
 ·cases hz
theorem zeros_ok {sz n : Nat} {z : AV} {zv : Array Value} (hz : CellsOk (RelI S w) zv z.cells) (hl : z.cells.length = sz) (h0 : 0 < sz) :
  CellsOk (RelI S w) (madeCells zv (n * sz)) (flat (List.replicate n z)):=by
 have hlen : (flat (List.replicate n z)).length = n * sz:=by
  induction n with
  | zero => simp [flat]
  | succ n ih =>
   simp only [flat,List.replicate_succ,List.flatMap_cons,List.length_append] at ih ⊢;rw [ih,hl,Nat.add_mul]; omega
 refine ⟨by rw [size_madeCells,hlen],fun i v c hv hc => ?_⟩
 have hi : i < n * sz:=by rw [← hlen]; exact (List.getElem?_eq_some_iff.1 hc).1
 have hzs : zv.size = sz:=by rw [hz.1,hl]
 have hm : i % sz < sz:=Nat.mod_lt _ h0;have e1 : v = zv[i % sz]'(by omega):=by
  unfold madeCells at hv;subst hzs;simp [hi] at hv;rw [← hv];simp [hm]
 have e2 : z.cells[i % sz]? = some c:=by
  have key : ∀ (n i : Nat),i < n * sz → (flat (List.replicate n z))[i]? = z.cells[i % sz]?:=by
   intro n;induction n with
   | zero => intro i hi; simp at hi
   | succ n ih =>
    intro i hi;simp only [flat,List.replicate_succ,List.flatMap_cons] at ih ⊢;by_cases hlt : i < sz
    ·rw [List.getElem?_append_left (by omega),Nat.mod_eq_of_lt hlt]
    ·rw [List.getElem?_append_right (by omega),hl,ih (i - sz) (by rw [Nat.add_mul] at hi; omega)]
     congr 1
     rw [Nat.mod_eq_sub_mod (a:=i) (by omega)]
  rw [← key n i hi]; exact hc
 rw [e1];exact hz.2 _ _ _ (Array.getElem?_eq_getElem (by omega)) e2
theorem mkSlice_sound {t el : TypeId} {i : TypeInfo} {z : AV} {l c : Operand} {al ac : AOpd} (hT : TmpsOk σ S w T a) (hR : RowsOk P Γ Own σ S w R) (hF : Free Own σ w s)
  (ho : o.op = .makeSlice t l c) (ht : P.underlying t = some (.slice el)) (hi : P.info? el = some i) (hz : zeroOf P el = some z) (h0 : 0 < i.size) (hby : i.bytes≤4096)
  (hzl : z.cells.length = i.size) (hzs : z.cells.all AV.scalar = true) (hl : opd P none l = some al) (hc : opd P none c = some ac)
  (call : CallF) (h : evalOp call s (getO T) R (.mkSlice i.size z al ac) = some e) : ∃ v w',OpRuns P a o w v w'∧Step P Γ Own σ S w R s e v w':=by
 have hzs' : ∀ c ∈ z.cells,c.scalar = true:=by simpa using hzs
 unfold zeroOf at hz;rw [hi] at hz;simp only at hz;split at hz
 ·rename_i zv hzv
  split at hz
  ·simp only [evalOp] at h
   split at h
   ·rename_i m n hgl hgc
    split at h
    ·rename_i hcond
     obtain ⟨rfl,hm0,hm1⟩:=hcond;simp at h; subst h
     have hrm : (roomMax : Int) = 34359738368:=rfl;rw [hrm] at hm1;have hzrel : RelI S w zv z:=ofVal_rel hz;have hzc : CellsOk (RelI S w) zv.cells z.cells:=hzrel.cells (by rintro rfl; simp [AV.cells,AV.scalar] at hzs') (by rintro u rfl; simpa [AV.cells,AV.scalar] using hzs')
     have hbytes : (i.bytes : Int) * m≤281474976710656:=by
      have h1 : (i.bytes : Int) * m≤4096 * m:=Int.mul_le_mul_of_nonneg_right (by omega) hm0
      omega
     have hrun:=run_make (P:=P) w t el i zv ht hi hzv .i64 .i64 m m hm0 (Int.le_refl _) hbytes (by omega)
     have hzok:=zeros_ok (n:=m.toNat) hzc hzl h0;have hrep : (List.replicate m.toNat z).length = m.toNat:=by simp
     have key:=new_arr (w':=w.alloc (.cells (madeCells zv.cells (m.toNat * i.size)) el)) (t:=el) (sz:=i.size) (c:=m.toNat) (es:=List.replicate m.toNat z) (rd:=[]) hR hF
      (fun b hb => heap_alloc_old w _ b hb) (Same.alloc w _) (heap_alloc_new w _) (size_madeCells _ _) (by simp) (by simp only [maxLen]; omega) h0
      (fun e he => by have:=(List.mem_replicate.1 he).2; subst this; exact ⟨hzl,hzs'⟩)
      (fun j x hx => by
       have hlt : j < (madeCells zv.cells (m.toNat * i.size)).size:=by rw [hzok.1]; exact (List.getElem?_eq_some_iff.1 hx).1
       exact ⟨_,Array.getElem?_eq_getElem hlt,hzok.2 j _ x (Array.getElem?_eq_getElem hlt) hx⟩)
     rw [hrep] at key;refine ⟨_,_,.inl ?_,key⟩;simp only [execOp,ho,Sem.run_bind,(Yp hT hl hgl).int_inv,(Yp hT hc hgc).int_inv,hrun,Result.andThen_ok,Sem.run_pure]
    ·cases h
   ·cases h
  ·cases hz
 ·cases hz
theorem fill_elems {sz : Nat} : ∀ {parts : List (Nat × Value)} {aparts : List (Nat × AV)} {cells : Array Value} {es es' : List AV},
  parts.length = aparts.length → (∀ (i : Nat) p q,parts[i]? = some p → aparts[i]? = some q → p.1 = q.1∧RelI S w p.2 q.2) → (∀ e ∈ es,Elem sz e) →
  CellsOk (RelI S w) cells (flat es) → setElems sz es aparts = some es' →
  ∃ cells',Instr.fill (fun i=>some (i * sz,sz)) cells parts = some cells'∧CellsOk (RelI S w) cells' (flat es')∧(∀ e ∈ es',Elem sz e)∧es'.length = es.length
 | [],[],cells,es,es',_,_,he,hc,h => by simp [setElems] at h; subst h; exact ⟨cells,rfl,hc,he,rfl⟩
 | [],_ :: _,_,_,_,hl,_,_,_,_ => by simp at hl
 | _ :: _,[],_,_,_,hl,_,_,_,_ => by simp at hl
 | (i,v) :: parts,(j,av) :: aparts,cells,es,es',hl,hp,he,hc,h => by
  obtain ⟨hij,hrel⟩:=hp 0 _ _ rfl rfl;simp only at hij hrel;subst hij;simp only [setElems] at h;split at h
  ·rename_i hcond
   obtain ⟨h1,h2,h3⟩:=hcond;have h3' : ∀ c ∈ av.cells,c.scalar = true:=by simpa using h3
   have hvc : CellsOk (RelI S w) v.cells av.cells:=hrel.cells (by rintro rfl; simp [AV.cells,AV.scalar] at h3') (by rintro u rfl; simpa [AV.cells,AV.scalar] using h3')
   have hfl:=flat_length he;have hfit : i * sz + av.cells.length≤(flat es).length:=by
    rw [hfl,h2];have : i * sz + 1 * sz≤es.length * sz:=by rw [← Nat.add_mul]; exact Nat.mul_le_mul_right _ (by omega)
    omega
   have hstep:=CellsOk.filled (off:=i * sz) hc hvc hfit;have hset : splice (flat es) (i * sz) av.cells.length av.cells = flat (es.set i av):=by
    apply List.ext_getElem?;intro k;rw [flat_set he h1 h2];have : splice (flat es) (i * sz) av.cells.length av.cells = (flat es).take (i * sz) ++ av.cells ++ (flat es).drop (i * sz + av.cells.length):=rfl;rw [this,getElem?_spliced _ _ _ _ hfit,h2]
   rw [hset] at hstep;have he' : ∀ e ∈ es.set i av,Elem sz e:=by
    intro e hm;rcases List.mem_or_eq_of_mem_set hm with hm | rfl
    ·exact he e hm
    ·exact ⟨h2,h3'⟩
   obtain ⟨cells',r1,r2,r3,r4⟩:=fill_elems (by simpa using hl) (fun k p q hp' hq' => hp (k + 1) p q (by simpa using hp') (by simpa using hq')) he' hstep h
   refine ⟨cells',?_,r2,r3,by rw [r4]; simp⟩
   have hsz:=hc.1;have hvs:=hvc.1;simp only [Instr.fill];rw [if_neg (by simp; omega)]
   exact r1
  ·cases h
theorem mkList_sound {t el : TypeId} {n len : Nat} {z : AV} {parts : Array (Nat × Operand)} {ps : List (Nat × AOpd)} (hT : TmpsOk σ S w T a) (hR : RowsOk P Γ Own σ S w R) (hF : Free Own σ w s)
  (ho : o.op = .buildSlice t len parts) (ht : P.underlying t = some (.slice el)) (hn : szOf P el = some n) (hz : zeroOf P el = some z)
  (hps : mapO (fun p : Nat × Operand => match opd P (some el) p.2 with
     | some a => some (p.1,a)
     | none => none) parts.toList = some ps) (h0 : 0 < n) (hlen : len * n≤65536) (hzl : z.cells.length = n) (hzs : z.cells.all AV.scalar = true)
  (h : evMkList s (getO T) R n z len ps = some e) : ∃ v w',OpRuns P a o w v w'∧Step P Γ Own σ S w R s e v w':=by
 have hzs' : ∀ c ∈ z.cells,c.scalar = true:=by simpa using hzs
 unfold zeroOf at hz;split at hz
 ·rename_i i hi
  split at hz
  ·rename_i zv hzv
   split at hz
   ·rename_i hzsz
    have hin : i.size = n:=by simpa [szOf,hi] using hn
    unfold evMkList at h;split at h
    ·rename_i aps haps
     split at h
     ·rename_i es hes
      obtain ⟨l1,l2⟩:=mapO_spec hps;obtain ⟨l3,l4⟩:=mapO_spec haps;obtain ⟨hL1,hL2⟩:=hR.lock (aps.flatMap fun p=>p.2.2)
      have hzrel : RelI (Locked σ S R (aps.flatMap fun p=>p.2.2)) w zv z:=ofVal_rel hz
      have hzc : CellsOk (RelI (Locked σ S R (aps.flatMap fun p=>p.2.2)) w) zv.cells z.cells:=hzrel.cells (by rintro rfl; simp [AV.cells,AV.scalar] at hzs') (by rintro u rfl; simpa [AV.cells,AV.scalar] using hzs')
      have hzok:=zeros_ok (n:=len) hzc hzl h0;obtain ⟨cells',r1,r2,r3,r4⟩:=fill_elems (S:=Locked σ S R (aps.flatMap fun p=>p.2.2)) (w:=w) (parts:=(parts.map fun p=>(p.1,a.eval p.2)).toList) (aparts:=aps.map fun p=>(p.1,p.2.1))
       (by simp [l3,l1]) (fun k p q hp hq => by
        simp only [Array.toList_map,List.getElem?_map,Option.map_eq_some_iff] at hp hq;obtain ⟨p0,hp0,rfl⟩:=hp;obtain ⟨q0,hq0,rfl⟩:=hq;have hi1 : k < ps.length:=by have:=(List.getElem?_eq_some_iff.1 hp0).1; omega
        have e1:=l2 k _ _ hp0 (List.getElem?_eq_getElem hi1);have e2:=l4 k _ _ (List.getElem?_eq_getElem hi1) hq0;generalize ps[k] = pi at e1 e2;split at e1
        ·rename_i ao hao
         simp only [Option.some.injEq] at e1;subst e1;simp only [mkPart] at e2;split at e2
         ·rename_i v hv
          split at e2
          ·rename_i v' ids hfr
           simp only [Option.some.injEq] at e2;subst e2;refine ⟨rfl,(frz_sound hR _ hfr (Yp hT hao hv)).lockMono fun x hx => ?_⟩
           rw [List.mem_flatMap];exact ⟨_,List.mem_of_getElem? hq0,hx⟩
          ·cases e2
         ·cases e2
        ·cases e1) (fun e he => by have:=(List.mem_replicate.1 he).2; subst this; exact ⟨hzl,hzs'⟩) hzok hes
      have hrun : (Instr.buildSlice t len (parts.map fun (i,x) => (i,a.eval x))).run P w = .ok (.slice (some ⟨w.heap.size,0,none⟩) len len) (w.alloc (.cells cells' el)):=by
       unfold Instr.buildSlice;simp only [Sem.run_bind,run_underlying ht,Result.andThen_ok,sizeOf,typeInfo,run_program,hi,Sem.run_pure,hin];have hbig : ¬ (len * n > 2 ^ 24):=by omega
       simp only [hbig,if_false,Sem.run_bind,Sem.run_pure,Result.andThen_ok,pure_bind];have heq : (parts.map fun (x : Nat × Operand) => match x with | (i,x) => (i,a.eval x)).toList = (parts.map fun p=>(p.1,a.eval p.2)).toList:=rfl
       by_cases hz0 : len * n = 0
       ·simp only [hz0,if_true,Sem.run_pure,Result.andThen_ok] at r1 ⊢
        rw [heq];have : madeCells zv.cells 0 = (Array.range 0).map ((#[] : Array Value)[· % (#[] : Array Value).size]!):=by simp [madeCells]
        rw [this] at r1;rw [r1];simp [newRow]
       ·simp only [hz0,if_false,Sem.run_bind,zeroValue,typeInfo,run_program,Result.andThen_ok,hi,hzv,Sem.run_pure]
        rw [heq];have : madeCells zv.cells (len * n) = (Array.range (len * n)).map (zv.cells[· % zv.cells.size]!):=rfl;rw [this] at r1;rw [r1];simp [newRow]
      have hexec : (execOp a.eval o).run P w = .ok (.value (.slice (some ⟨w.heap.size,0,none⟩) len len)) (w.alloc (.cells cells' el)):=by
       simp only [execOp,ho,Sem.run_bind,hrun,Result.andThen_ok,Sem.run_pure]
      split at h
      ·rename_i hl0
       subst hl0;simp only [Option.some.injEq] at h; subst h
       refine ⟨_,_,.inl hexec,σ,S,.imm (.nil _ _),?_,⟨Ids.le_refl σ,fun _ h => h,fun b hb => heap_alloc_old w _ b (hR.old b hb),fun b hb => heap_alloc_old w _ b ?_,Same.alloc w _,fun _ h => .inl h⟩,fun _ _ => rfl⟩
       ·refine ⟨fun id r hr => ?_,hR.apart,hR.inj,fun b hb => by have:=hR.old b hb; simp; omega⟩
        exact (hR.ok id r hr).mono (Ids.le_refl σ) (fun _ h => h) (fun b hb => heap_alloc_old w _ b (hR.old b hb)) (by simp) fun b hb => heap_alloc_old w _ b (hR.lt hr hb)
       ·exact Nat.lt_of_not_le fun hle=>hb (hF.own b hle)
      ·simp only [Option.some.injEq] at h; subst h
       have hel : es.length = len:=by rw [r4]; simp
       have hfl:=flat_length r3;refine ⟨_,_,.inl hexec,Step.behind hR (rd:=[]) ?_⟩;have key:=new_arr (w':=w.alloc (.cells cells' el)) (t:=el) (sz:=n) (c:=len) (es:=es) (rd:=[]) hL1 hF
        (fun b hb => heap_alloc_old w _ b hb) (Same.alloc w _) (heap_alloc_new w _) (by rw [r2.1,hfl,hel]) (by omega) (by
         have : len≤len * n:=Nat.le_mul_of_pos_right _ h0;simp only [maxLen]; omega) h0 r3
        (fun j x hx => by
         have hlt : j < cells'.size:=by rw [r2.1]; exact (List.getElem?_eq_some_iff.1 hx).1
         exact ⟨_,Array.getElem?_eq_getElem hlt,r2.2 j _ x (Array.getElem?_eq_getElem hlt) hx⟩)
       rw [hel] at key;exact key
     ·cases h
    ·cases h
   ·cases hz
  ·cases hz
 ·cases hz
end
end Go.Abs
namespace Go.Abs
section
variable {P : Program} {Γ : Gam} {Own : Nat → Prop} {σ : Ids} {S : Nat → Prop} {w : World} {R : Nat → Option Row} {s : Nat} {T : Nat → Option AV} {a : Act} {o : Oper} {e : Eff}
theorem RowsOk.move {w' : World} {id : Nat} {r0 row : Row} {b0 : Nat} {l : Loc} (h : RowsOk P Γ Own σ S w R) (hs : σ s = none) (hid : R id = some r0) (hb0 : Loc.has (σ id) b0)
  (hl : l.blocks = [b0]) (hw : ∀ b,b ≠ b0 → w'.heap[b]? = w.heap[b]?) (hS : Same w w') (hr : (∀ b,S b → w'.heap[b]? = w.heap[b]?) → RowOk P Γ (σ.set s l) S w' s row) :
  RowsOk P Γ Own (σ.set s l) S w' (updR [(s,some row),(id,none)] R)∧Ext Own σ S w (σ.set s l) S w':=by
 obtain ⟨hnS,hOwn⟩:=h.apart id r0 b0 hid hb0;have hkeep : ∀ b,S b → w'.heap[b]? = w.heap[b]?:=fun b hb => hw b (by rintro rfl; exact hnS hb)
 have hle : σ.le (σ.set s l):=Ids.le_set hs;have hR : ∀ j r,j ≠ s → updR [(s,some row),(id,none)] R j = some r → R j = some r∧j ≠ id:=fun j r hne hi => by
  simp only [updR,Ne.symm hne,if_false] at hi;split at hi
  ·cases hi
  ·rename_i hne'; exact ⟨hi,Ne.symm hne'⟩
 have hsb : ∀ b,Loc.has ((σ.set s l) s) b → b = b0:=by
  rintro b ⟨l',hl',hb⟩;simp at hl'; subst hl'
  rw [hl] at hb; exact List.mem_singleton.1 hb
 refine ⟨⟨fun j r hi => ?_,fun j r b hi hb => ?_,fun j j' r r' b hi hi' hb hb' => ?_,fun b hb => Nat.lt_of_lt_of_le (h.old b hb) hS.size⟩,hle,fun _ h => h,hkeep,fun b hb => hw b ?_,hS,fun _ h => .inl h⟩
 ·by_cases hne : j = s
  ·subst hne
   simp [updR] at hi;subst hi; exact hr hkeep
  ·obtain ⟨hi',hnid⟩:=hR j r hne hi
   refine (h.ok j r hi').mono hle (fun _ h => h) hkeep hS.size fun b hb => hw b ?_
   rintro rfl;exact hnid (h.inj j id r r0 b hi' hid hb hb0)
 ·by_cases hne : j = s
  ·subst hne
   have:=hsb b hb;subst this;exact ⟨hnS,hOwn⟩
  ·rw [Ids.set_other hne] at hb
   exact h.apart j r b (hR j r hne hi).1 hb
 ·by_cases hne : j = s
  ·by_cases hne' : j' = s
   ·rw [hne,hne']
   ·subst hne
    have:=hsb b hb;subst this;rw [Ids.set_other hne'] at hb';obtain ⟨hi'',hnid⟩:=hR j' r' hne' hi';exact absurd (h.inj j' id r' r0 b hi'' hid hb' hb0) hnid
  ·by_cases hne' : j' = s
   ·subst hne'
    have:=hsb b hb';subst this;rw [Ids.set_other hne] at hb;obtain ⟨hi'',hnid⟩:=hR j r hne hi;exact absurd (h.inj j id r r0 b hi'' hid hb hb0) hnid
   ·rw [Ids.set_other hne] at hb
    rw [Ids.set_other hne'] at hb';exact h.inj j j' r r' b (hR j r hne hi).1 (hR j' r' hne' hi').1 hb hb'
 ·rintro rfl; exact hb hOwn
theorem elems_src {sz : Nat} {av : AV} {v : Value} {xs : List AV} {ids : List Nat} (hR : RowsOk P Γ Own σ S w R) (hv : RelV σ S w v av) (h : elemsOf R sz av = some (xs,ids)) :
  ∃ ad cap,v = .slice ad xs.length cap∧(∀ e ∈ xs,Elem sz e)∧(xs ≠ [] → ∃ b o,ad = some ⟨b,o,none⟩∧∃ news : List Value,news.length = xs.length * sz ∧
   (∀ (j : Nat) u,news[j]? = some u → w.cell? ⟨b,o + j,none⟩ = some u)∧∀ (j : Nat) u x,news[j]? = some u → (flat xs)[j]? = some x → RelI S w u x):=by
 unfold elemsOf at h;split at h
 ·simp at h; obtain ⟨rfl,rfl⟩:=h
  cases hv with | imm hv => cases hv; exact ⟨_,_,rfl,by simp,by simp⟩
 ·split at h
  ·rename_i sz' es hsz
   subst hsz;simp at h; obtain ⟨rfl,rfl⟩:=h
   cases hv with
   | imm hv =>
    cases hv with
    | list0 => exact ⟨_,_,rfl,by simp,by simp⟩
    | list b o sz cap _ f hb hcap he hc hr =>
     have hfl:=flat_length he;refine ⟨_,_,rfl,he,fun _=>⟨b,o,rfl,(List.range (es.length * sz')).map f,by simp,fun j u hu => ?_,fun j u x hu hx => ?_⟩⟩
     ·rw [List.getElem?_map] at hu
      simp only [Option.map_eq_some_iff] at hu;obtain ⟨k,hk,rfl⟩:=hu;have hlt : j < es.length * sz':=by have:=(List.getElem?_eq_some_iff.1 hk).1; simpa using this
      rw [List.getElem?_range hlt] at hk;cases hk;exact hc j hlt
     ·rw [List.getElem?_map] at hu
      simp only [Option.map_eq_some_iff] at hu;obtain ⟨k,hk,rfl⟩:=hu;have hlt : j < es.length * sz':=by have:=(List.getElem?_eq_some_iff.1 hk).1; simpa using this
      rw [List.getElem?_range hlt] at hk;cases hk;exact hr j x hx
  ·cases h
 ·rename_i id off len
  split at h
  ·rename_i sz' es hr
   split at h
   ·rename_i hc
    obtain ⟨rfl,hle⟩:=hc;simp at h; obtain ⟨rfl,rfl⟩:=h
    have hlen : ((es.drop off).take len).length = len:=by simp; omega
    cases hv with
    | imm hv => cases hv
    | sliceV id ad hσ => exact ⟨ad,0,by simp,by simp,by simp⟩
    | slice id off len cap b sz n' c ad hσ q1 q2 q3 q4 =>
     rcases hR.ok id _ hr with ⟨hk,_⟩ | ⟨b',c',cells,t',hk,hh',hs,hn',_,hp',hel,hf⟩
     ·rw [hk] at hσ; cases hσ
     ·have q:=hk.symm.trans hσ
      simp only [Option.some.injEq,Loc.row.injEq] at q;obtain ⟨rfl,rfl,rfl,rfl⟩:=q;have hee : ∀ e ∈ (es.drop off).take len,Elem sz' e:=fun e hm => hel e (List.mem_of_mem_drop (List.mem_of_mem_take hm))
      refine ⟨_,_,by rw [hlen],hee,fun hne=>?_⟩
      have hl0 : len ≠ 0:=by rintro rfl; simp at hne
      have had:=q4 (by omega)
      subst had;have hfit : off * sz' + len * sz'≤cells.size:=by
       refine Nat.le_trans ?_ hs;rw [← Nat.add_mul]; exact Nat.mul_le_mul_right _ (by omega)
      refine ⟨b',off * sz',rfl,(cells.toList.drop (off * sz')).take (len * sz'),by rw [hlen]; simp; omega,fun j u hu => ?_,fun j u x hu hx => ?_⟩
      ·rw [cell_of_row w b' _ cells t' (0,0) hh']
       rw [List.getElem?_take] at hu;split at hu
       ·rw [List.getElem?_drop,Array.getElem?_toList] at hu; exact hu
       ·cases hu
      ·rw [flat_take (fun e hm => hel e (List.mem_of_mem_drop hm)),flat_drop hel] at hx
       have h1:=List.getElem?_take (l:=List.drop (off * sz') (flat es)) (i:=len * sz') (j:=j);rw [h1] at hx;have h2:=List.getElem?_take (l:=List.drop (off * sz') cells.toList) (i:=len * sz') (j:=j);rw [h2] at hu;split at hx
       ·rw [List.getElem?_drop] at hx
        rw [if_pos (by assumption),List.getElem?_drop,Array.getElem?_toList] at hu
        obtain ⟨v',hv',hrel⟩:=hf _ x hx;rw [hu] at hv'; cases hv'
        exact hrel
       ·cases hx
   ·cases h
  ·cases h
 ·rename_i id p len
  split at h
  ·rename_i q es hr
   split at h
   ·rename_i sz' xs' hx
    split at h
    ·rename_i hc
     obtain ⟨rfl,hle⟩:=hc;simp at h; obtain ⟨rfl,rfl⟩:=h
     have hlen : (xs'.take len).length = len:=by simp; omega
     cases hv with
     | imm hv => cases hv
     | in0 _ _ b sz1 n1 c1 inn ad hσ h1 => exact ⟨ad,0,by simp,by simp,by simp⟩
     | inS _ _ _ b sz1 n1 c1 inn b' c' hσ h1 h2 =>
      rcases hR.ok id _ hr with ⟨hk,_⟩ | ⟨l,hk,ht⟩
      ·rw [hk] at hσ; cases hσ
      ·obtain ⟨b0,c0,inn0,cells,t',rfl,g2,g3,g4,g5,g6,g7,g8,g9,g10⟩:=ht
       rw [hk] at hσ;simp only [Option.some.injEq,Loc.tab.injEq] at hσ;obtain ⟨rfl,rfl,rfl,rfl,rfl⟩:=hσ;obtain ⟨v0,_,htc⟩:=g10 p _ _ hx h1;rcases htc with ⟨q1,_⟩ | ⟨ys,hys,q2,⟨q3,_⟩ | ⟨b1,c1,cs',t1,q0,_,q3,q4,q5,q6,q7⟩⟩
       ·simp [AV.plain1] at q1
       ·cases q3
       ·cases q0
        simp only [AV.own.injEq] at hys;obtain ⟨rfl,rfl⟩:=hys;have hp : ∀ y ∈ xs'.take len,y.plain1 = true:=fun y hy => q2 y (List.mem_of_mem_take hy)
        refine ⟨_,_,by rw [hlen],fun e he => ⟨by rw [plain1_cells (hp e he)]; rfl,fun c hc => ?_⟩,fun _=>⟨b',0,rfl,(xs'.take len).map AV.toVal,by simp,fun j u hu => ?_,fun j u x hu hx => ?_⟩⟩
        ·rw [plain1_cells (hp e he)] at hc
         rw [List.mem_singleton.1 hc];exact plain1_scalar (hp e he)
        ·rw [List.getElem?_map] at hu
         simp only [Option.map_eq_some_iff] at hu;obtain ⟨y,hy,rfl⟩:=hu;have hy' : xs'[j]? = some y:=by
          rw [List.getElem?_take] at hy;split at hy
          ·exact hy
          ·cases hy
         rw [Nat.zero_add,cell_of_row w b' _ cs' t1 (0,0) q3];exact q7 j y hy'
        ·rw [flat_plain hp] at hx
         rw [List.getElem?_map,hx] at hu;simp at hu; subst hu
         exact plain1_rel (hp x (List.mem_of_getElem? hx))
    ·cases h
   ·cases h
  ·cases h
 ·cases h
theorem run_append_zero {t ty el : TypeId} {i : TypeInfo} (ht : P.underlying t = some (.slice el)) (hi : P.info? el = some i) {base ad : Option Addr} {n c cap : Nat} (hn : n≤c) :
  (Builtin.append_ #[t,t] ty #[.slice base n c,.slice ad 0 cap]).run P w = .ok (.slice base n c) w:=by
 have hf : (Builtin.firstCells i.size 0 (.slice ad 0 cap)).run P w = .ok #[] w:=by
  cases ad with
  | none => simp [Builtin.firstCells]
  | some ad => simp [Builtin.firstCells,loadCells,loadCellsFrom]
 cases base with
 | none => simp [Builtin.append_,run_underlying ht,sizeOf,typeInfo,hi,Builtin.lenOf,hn,hf]
 | some b => simp [Builtin.append_,run_underlying ht,sizeOf,typeInfo,hi,Builtin.lenOf,hn,hf,storeCells]
theorem run_append_in (t ty el te : TypeId) (i : TypeInfo) (ht : P.underlying t = some (.slice el)) (hi : P.info? el = some i)
  (g sLen sCap : Nat) (cur : Array Value) (hg : w.heap[g]? = some (.cells cur te (0,0)))
  (ad : Addr) (m c : Nat) (news : List Value) (hl : news.length = m * i.size) (hnews : ∀ (j : Nat) u,news[j]? = some u → w.cell? (ad.add j) = some u) (h1 : ∀ u ∈ news,u.oneCell' = true)
  (hroom : sLen + m≤sCap) (hfit : sLen * i.size + news.length≤cur.size) :
  (Builtin.append_ #[t,t] ty #[.slice (some ⟨g,0,none⟩) sLen sCap,.slice (some ad) m c]).run P w =
   .ok (.slice (some ⟨g,0,none⟩) (sLen + m) sCap) (w.setRow g (cur.toList.take (sLen * i.size) ++ news ++ cur.toList.drop (sLen * i.size + news.length)).toArray):=by
 have hf:=run_firstCells_some (P:=P) w i.size m ad m c news hl hnews;have hst:=run_storeCells_at P g (sLen * i.size) te news 0 cur w hg (by simpa using hfit) h1
 simp only [Nat.add_zero] at hst;simp [Builtin.append_,run_underlying ht,sizeOf,typeInfo,hi,Builtin.lenOf,hroom,hf,Addr.add_lit,hst]
theorem zeroCells_eq (z : Array Value) (n : Nat) : (Builtin.zeroCells z n).size = n * z.size:=size_zeroCells z n
theorem run_append_zeros {t u ty el : TypeId} {k : IntKind} {i : TypeInfo} {z : Value} (ht : P.underlying t = some (.slice el)) (hu : P.underlying u = some (.int k)) (hi : P.info? el = some i) (hz : i.zero = some z)
  (base : Option Addr) (n : Nat) (h0 : 0 < n) (hn : n≤1000000) (hby : i.bytes≤4096) (h0s : 0 < i.size) :
  (Builtin.append_ #[t,u] ty #[.slice base 0 0,.int .i64 (n : Int)]).run P w =
   .ok (.slice (some ⟨w.heap.size,0,none⟩) n (grownCap w n 0 el)) (w.drew.alloc (.cells (Builtin.zeroCells z.cells n ++ Builtin.zeroCells z.cells (grownCap w n 0 el - n)) el)):=by
 have hb : n * i.bytes≤1000000 * 4096:=Nat.mul_le_mul hn hby;have hn0 : n ≠ 0:=by omega
 have h63' : ¬ (9223372036854775807 < (n : Int)):=by omega
 have h48' : ¬ (281474976710656 < Builtin.nextslicecap n 0 * i.bytes):=by rw [nextslicecap_zero h0]; omega
 have hw : IntKind.i64.wrap (n : Int) = n:=by simp [IntKind.wrap,IntKind.signed,IntKind.bits]; omega
 have h48 : ¬ ((281474976710656 : Int) < (n : Int) * (i.bytes : Int)):=by
  have : ((n * i.bytes : Nat) : Int) = (n : Int) * (i.bytes : Int):=by simp
  omega
 have hneg : ¬ ((n : Int) < 0):=by omega
 have hf : (Builtin.firstCells i.size 0 (.slice base 0 0)).run P w.drew = .ok #[] w.drew:=by
  cases base with
  | none => exact run_firstCells_none (P:=P) w.drew i.size 0 0 0
  | some b => exact run_firstCells_some (P:=P) w.drew i.size 0 b 0 0 [] (by simp) (by simp)
 simp [Builtin.append_,run_underlying ht,run_underlying hu,sizeOf,typeInfo,zeroValue,hi,hz,asInt,asIntOf,hw,hneg,h48,hn0,h63',h48',Question.forced,newRow,grownCap,hf];intro h;have:=Nat.mul_pos h0 h0s;omega
theorem capN_sound {t el : TypeId} {x : Operand} {ax : AOpd} {t1 : Option TypeId} (hT : TmpsOk σ S w T a) (hR : RowsOk P Γ Own σ S w R)
  (ho : o.op = .call ⟨.builtin .cap,#[x],#[t]⟩) (ht : P.underlying t = some (.slice el)) (hx : opd P t1 x = some ax) (h : evCapN (getO T) ax = some e) :
  ∃ v w',OpRuns P a o w v w'∧Step P Γ Own σ S w R s e v w':=by
 unfold evCapN at h;split at h
 ·rename_i v0 hg
  split at h;case isFalse => cases h
  rename_i hnil;simp only [Option.some.injEq] at h; subst h
  have hv:=Yp hT hx hg;generalize hax : a.eval x = va at hv;obtain ⟨base,rfl⟩:=nil_val hv hnil;refine ⟨.int .i64 0,w,.inl ?_,Step.read hR (.imm (.int .i64 0))⟩;simp [execOp,ho,resolve,invoke,builtin,hax,run_underlying ht,Builtin.cap_,goInt]
 ·cases h
theorem appZ_sound {t u el : TypeId} {k : IntKind} {i : TypeInfo} {z : AV} {d x : Operand} {ad ax : AOpd} {t1 t2 : Option TypeId} (hT : TmpsOk σ S w T a) (hR : RowsOk P Γ Own σ S w R) (hF : Free Own σ w s)
  (ho : o.op = .call ⟨.builtin .append,#[d,x],#[t,u]⟩) (ht : P.underlying t = some (.slice el)) (hu : P.underlying u = some (.int k)) (hi : P.info? el = some i) (hz : zeroOf P el = some z)
  (h0 : 0 < i.size) (hby : i.bytes≤4096) (hzl : z.cells.length = i.size) (hzs : z.cells.all AV.scalar = true) (hd : opd P t1 d = some ad) (hx : opd P t2 x = some ax) (h : evAppZ s (getO T) i.size z ad ax = some e) :
  ∃ v w',OpRuns P a o w v w'∧Step P Γ Own σ S w R s e v w':=by
 have hzs' : ∀ c ∈ z.cells,c.scalar = true:=by simpa using hzs
 unfold zeroOf at hz;rw [hi] at hz;simp only at hz;split at hz
 ·rename_i zv hzv
  split at hz
  ·rename_i hzsz
   unfold evAppZ at h;split at h
   ·rename_i v0 m hgd hgx
    split at h
    ·rename_i hcond
     obtain ⟨hnil,hm0,hm1⟩:=hcond;simp only [Option.some.injEq] at h; subst h
     obtain ⟨n,rfl⟩ : ∃ n : Nat,m = (n : Int):=⟨m.toNat,by omega⟩
     have hvd:=Yp hT hd hgd;have hvx:=(Yp hT hx hgx).int_inv;generalize hed : a.eval d = vd at hvd;obtain ⟨base,rfl⟩:=nil_val hvd hnil;have hrun:=run_append_zeros (P:=P) (w:=w) (ty:=o.type) ht hu hi hzv base n (by omega) (by omega) hby h0
     have hcapge:=grownCap_ge w n 0 el;have hcm : grownCap w n 0 el≤maxLen:=grownCap_le_maxLen w _ 0 el (by simp only [maxLen]; omega)
     have hzrel : RelI S w zv z:=ofVal_rel hz;have hzc : CellsOk (RelI S w) zv.cells z.cells:=hzrel.cells (by rintro rfl; simp [AV.cells,AV.scalar] at hzs') (by rintro u rfl; simpa [AV.cells,AV.scalar] using hzs')
     have hzok:=zeros_ok (n:=n) hzc hzl h0;have hzm : Builtin.zeroCells zv.cells n = madeCells zv.cells (n * i.size):=by unfold Builtin.zeroCells madeCells; rw [hzsz]
     have hsize : (Builtin.zeroCells zv.cells n ++ Builtin.zeroCells zv.cells (grownCap w n 0 el - n)).size = grownCap w n 0 el * i.size:=by
      rw [Array.size_append,zeroCells_eq,zeroCells_eq,hzsz,← Nat.add_mul]; congr 1; omega
     have hrep : (List.replicate n z).length = n:=by simp
     have key:=new_arr (w':=w.drew.alloc (.cells (Builtin.zeroCells zv.cells n ++ Builtin.zeroCells zv.cells (grownCap w n 0 el - n)) el)) (t:=el) (sz:=i.size) (c:=grownCap w n 0 el) (es:=List.replicate n z) (rd:=[]) hR hF
      (fun b hb => heap_alloc_old w.drew _ b hb) ((Same.drew w).trans (Same.alloc ..)) (heap_alloc_new w.drew _) hsize (by rw [hrep]; exact hcapge) hcm h0
      (fun e he => by have:=(List.mem_replicate.1 he).2; subst this; exact ⟨hzl,hzs'⟩)
      (fun j x hx => by
       have hlt : j < (madeCells zv.cells (n * i.size)).size:=by rw [hzok.1]; exact (List.getElem?_eq_some_iff.1 hx).1
       refine ⟨(madeCells zv.cells (n * i.size))[j],?_,hzok.2 j _ x (Array.getElem?_eq_getElem hlt) hx⟩;rw [hzm,Array.getElem?_append_left hlt,Array.getElem?_eq_getElem hlt])
     rw [hrep] at key;refine ⟨_,_,.inl ?_,key⟩;simp only [execOp,ho,resolve,invoke,builtin,pure_bind,Sem.run_bind,List.map_toArray,List.map_cons,List.map_nil,hed,hvx,hrun,Result.andThen_ok,Sem.run_pure]
    ·cases h
   ·cases h
  ·cases hz
 ·cases hz
theorem zeros_num {m : Nat} {i : TypeInfo} (hm : m≤1000000) (hby : i.bytes≤4096) : IntKind.i64.wrap (m : Int) = m∧¬ ((m : Int) < 0)∧¬ ((281474976710656 : Int) < (m : Int) * (i.bytes : Int)):=by
 have hb : m * i.bytes≤1000000 * 4096:=Nat.mul_le_mul hm hby;have : ((m * i.bytes : Nat) : Int) = (m : Int) * (i.bytes : Int):=by simp
 exact ⟨by simp [IntKind.wrap,IntKind.signed,IntKind.bits]; omega,by omega,by omega⟩
theorem run_appendZ_none {t u ty el : TypeId} {k : IntKind} {i : TypeInfo} (ht : P.underlying t = some (.slice el)) (hu : P.underlying u = some (.int k)) (hi : P.info? el = some i)
  (bd : Addr) (sLen sCap : Nat) (hin : sLen≤sCap) :
  (Builtin.append_ #[t,u] ty #[.slice (some bd) sLen sCap,.int .i64 ((0 : Nat) : Int)]).run P w = .ok (.slice (some bd) sLen sCap) w:=by
 have hw : IntKind.i64.wrap 0 = 0:=by simp [IntKind.wrap,IntKind.signed,IntKind.bits]
 simp [Builtin.append_,run_underlying ht,run_underlying hu,sizeOf,typeInfo,hi,asInt,asIntOf,hw,hin,storeCells]
theorem run_appendZ_in {t u ty el te : TypeId} {k : IntKind} {i : TypeInfo} {z : Value} (ht : P.underlying t = some (.slice el)) (hu : P.underlying u = some (.int k)) (hi : P.info? el = some i) (hz : i.zero = some z)
  (m : Nat) (hm : m≤1000000) (hm0 : 0 < m) (hby : i.bytes≤4096) (h0s : 0 < i.size) (g sLen sCap : Nat) (cur : Array Value) (hg : w.heap[g]? = some (.cells cur te (0,0))) (hin : sLen + m≤sCap)
  (h1 : ∀ v ∈ (Builtin.zeroCells z.cells m).toList,v.oneCell' = true) (hfit : sLen * i.size + (Builtin.zeroCells z.cells m).toList.length≤cur.size) :
  (Builtin.append_ #[t,u] ty #[.slice (some ⟨g,0,none⟩) sLen sCap,.int .i64 (m : Int)]).run P w =
   .ok (.slice (some ⟨g,0,none⟩) (sLen + m) sCap) (w.setRow g (cur.toList.take (sLen * i.size) ++ (Builtin.zeroCells z.cells m).toList ++ cur.toList.drop (sLen * i.size + (Builtin.zeroCells z.cells m).toList.length)).toArray):=by
 obtain ⟨hw,hneg,h48⟩:=zeros_num (i:=i) hm hby;have hst:=run_storeCells_at P g (sLen * i.size) te _ 0 cur w hg (by simpa using hfit) h1
 simp only [Nat.add_zero] at hst;have hn0 : ¬ (m = 0 ∨ i.size = 0):=by omega
 have hn1 : ¬ m = 0:=by omega
 have hn2 : ¬ i.size = 0:=by omega
 simp [Builtin.append_,run_underlying ht,run_underlying hu,sizeOf,typeInfo,zeroValue,hi,hz,asInt,asIntOf,hw,hneg,h48,hin,hn1,hn2,Addr.add_lit,hst];intro h;have:=Nat.mul_pos hm0 h0s;omega
theorem run_appendZ_grow {t u ty el : TypeId} {k : IntKind} {i : TypeInfo} {z : Value} (ht : P.underlying t = some (.slice el)) (hu : P.underlying u = some (.int k)) (hi : P.info? el = some i) (hz : i.zero = some z)
  (m : Nat) (hm : m≤1000000) (hm0 : 0 < m) (hby : i.bytes≤4096) (h0s : 0 < i.size) (bd : Addr) (sLen sCap : Nat) (olds : List Value) (hol : olds.length = sLen * i.size) (hold : ∀ (j : Nat) v,olds[j]? = some v → w.cell? (bd.add j) = some v)
  (hin : ¬ sLen + m≤sCap) (hs : sLen≤sCap) (hsl : sLen≤1000000) :
  (Builtin.append_ #[t,u] ty #[.slice (some bd) sLen sCap,.int .i64 (m : Int)]).run P w =
   .ok (.slice (some ⟨w.heap.size,0,none⟩) (sLen + m) (grownCap w (sLen + m) sCap el)) (w.drew.alloc (.cells (olds.toArray ++ Builtin.zeroCells z.cells m ++ Builtin.zeroCells z.cells (grownCap w (sLen + m) sCap el - (sLen + m))) el)):=by
 obtain ⟨hw,hneg,h48⟩:=zeros_num (i:=i) hm hby;have hn1 : ¬ m = 0:=by omega
 have hn2 : ¬ i.size = 0:=by omega
 have h63 : ¬ (9223372036854775807 < ((sLen : Int) + (m : Int))):=by omega
 have hb2 : (sLen + m) * i.bytes≤2000000 * 4096:=Nat.mul_le_mul (by omega) hby
 have hfits:=growslice_fits (need:=sLen + m) (old:=sCap) (bytes:=i.bytes) (by omega) (by omega)
 have h48' : ¬ (281474976710656 < Builtin.nextslicecap (sLen + m) sCap * i.bytes):=by omega
 have hf:=run_firstCells_some (P:=P) w.drew i.size sLen bd sLen sCap olds hol (by simpa using hold)
 simp [Builtin.append_,run_underlying ht,run_underlying hu,sizeOf,typeInfo,zeroValue,hi,hz,asInt,asIntOf,hw,hneg,h48,hin,hn1,hn2,h63,h48',Question.forced,newRow,grownCap,hf];intro h;have:=Nat.mul_pos hm0 h0s;omega
theorem appW_sound {t u el : TypeId} {k : IntKind} {i : TypeInfo} {z : AV} {zv : Value} {d x : Operand} {dv : AV} {m0 : Int} (hR : RowsOk P Γ Own σ S w R) (hF : Free Own σ w s)
  (ho : o.op = .call ⟨.builtin .append,#[d,x],#[t,u]⟩) (ht : P.underlying t = some (.slice el)) (hu : P.underlying u = some (.int k)) (hi : P.info? el = some i) (hzv : i.zero = some zv) (hzsz : zv.cells.size = i.size) (hzrel : RelI S w zv z)
  (h0 : 0 < i.size) (hby : i.bytes≤4096) (hzl : z.cells.length = i.size) (hzs' : ∀ c ∈ z.cells,c.scalar = true) {vd : Value} (hed : a.eval d = vd) (hvd : RelV σ S w vd dv) (hvx : a.eval x = .int .i64 m0)
  (h : evAppW s R i.size z dv m0 = some e) :
  ∃ v w',OpRuns P a o w v w'∧Step P Γ Own σ S w R s e v w':=by
 have hexec : ∀ {v : Value} {w' : World},(Builtin.append_ #[t,u] o.type #[vd,.int .i64 m0]).run P w = .ok v w' → OpRuns P a o w v w':=by
  intro v w' hr;refine .inl ?_;simp only [execOp,ho,resolve,invoke,builtin,pure_bind,Sem.run_bind,List.map_toArray,List.map_cons,List.map_nil,hed,hvx,hr,Result.andThen_ok,Sem.run_pure]
 unfold evAppW at h;split at h
 ·rename_i id len
  split at h
  ·rename_i sz' es hr
   split at h
   ·rename_i hc
    obtain ⟨rfl,hfull,hl0,hl1,hm0,hm1⟩:=hc;simp only [Option.some.injEq] at h; subst h
    obtain ⟨m,rfl⟩ : ∃ m : Nat,m0 = (m : Int):=⟨m0.toNat,by omega⟩
    have hmm : ((m : Int)).toNat = m:=by omega
    have hzc : CellsOk (RelI S w) zv.cells z.cells:=hzrel.cells (by rintro rfl; simp [AV.cells,AV.scalar] at hzs') (by rintro u rfl; simpa [AV.cells,AV.scalar] using hzs')
    have hzok:=zeros_ok (n:=m) hzc hzl h0;have hzm : Builtin.zeroCells zv.cells m = madeCells zv.cells (m * i.size):=by unfold Builtin.zeroCells madeCells; rw [hzsz]
    have hzn : (Builtin.zeroCells zv.cells m).size = m * i.size:=by rw [zeroCells_eq,hzsz]
    have hze : ∀ y ∈ List.replicate m z,Elem i.size y:=fun y hy => by rw [(List.mem_replicate.1 hy).2]; exact ⟨hzl,hzs'⟩
    have hzf : (flat (List.replicate m z)).length = m * i.size:=by rw [flat_length hze]; simp
    have hrelz : ∀ (j : Nat) y,(flat (List.replicate m z))[j]? = some y → ∃ v,(Builtin.zeroCells zv.cells m)[j]? = some v∧RelI S w v y:=fun j y hy => by
     have hlt : j < (madeCells zv.cells (m * i.size)).size:=by rw [hzok.1]; exact (List.getElem?_eq_some_iff.1 hy).1
     exact ⟨_,by rw [hzm]; exact Array.getElem?_eq_getElem hlt,hzok.2 j _ y (Array.getElem?_eq_getElem hlt) hy⟩
    have hone : ∀ v ∈ (Builtin.zeroCells zv.cells m).toList,v.oneCell' = true:=by
     intro v hv;obtain ⟨j,hj,rfl⟩:=List.getElem_of_mem hv;have hj1 : j < (Builtin.zeroCells zv.cells m).size:=by simpa using hj
     have hjf : j < (flat (List.replicate m z)).length:=by omega
     obtain ⟨v',e1,e2⟩:=hrelz j _ (List.getElem?_eq_getElem hjf);rw [Array.getElem?_eq_getElem hj1] at e1;have : (Builtin.zeroCells zv.cells m).toList[j] = v':=by simpa using Option.some.inj e1
     rw [this];refine e2.oneCell ?_;have hm:=List.getElem_mem hjf;obtain ⟨y,hy,hyc⟩:=List.mem_flatMap.1 hm;rw [(List.mem_replicate.1 hy).2] at hyc;exact hzs' _ hyc
    have hzl2 : (Builtin.zeroCells zv.cells m).toList.length = m * i.size:=by rw [Array.length_toList,hzn]
    rcases hR.ok id _ hr with ⟨_,he⟩ | ⟨b',c',cur,te,hk,hh,hs,hn',hmax,hp',hel,hf⟩
    ·rw [he] at hfull; simp at hfull; omega
    ·have hvd' : ∃ ad cap,vd = .slice (some ad) len cap∧es.length≤cap∧cap = c'∧(cap ≠ 0 → ad = ⟨b',0,none⟩):=by
      cases hvd with
      | imm hvd => cases hvd
      | slice id off len cap b sz n' c ad hσ q1 q2 q3 q4 =>
       have q:=hk.symm.trans hσ;simp only [Option.some.injEq,Loc.row.injEq] at q;obtain ⟨rfl,rfl,rfl,rfl⟩:=q;exact ⟨ad,cap,rfl,by omega,by omega,by simpa using q4⟩
      | sliceV id b hσ => rw [hk] at hσ; cases hσ
     obtain ⟨bd,cap,rfl,hcap1,hcap2,hbd⟩:=hvd';subst hfull;have hbd':=hbd (by omega)
     subst hbd';have hef:=flat_length hel;have helx : ∀ e ∈ es ++ List.replicate m z,Elem i.size e:=fun e hm => by
      rcases List.mem_append.1 hm with hm | hm
      ·exact hel e hm
      ·exact hze e hm
     rw [hmm];by_cases hin : es.length + m≤cap
     ·have move : ∀ {cur' : Array Value} {w' : World},w'.heap[b']? = some (.cells cur' te (0,0)) → c' * i.size≤cur'.size → (∀ b,b ≠ b' → w'.heap[b]? = w.heap[b]?) → Same w w' →
        (∀ (j : Nat) y,(flat (es ++ List.replicate m z))[j]? = some y → ∃ v,cur'[j]? = some v∧RelI S w v y) →
        Step P Γ Own σ S w R s ⟨.slice s 0 (es.length + m),[(s,some (.arr i.size (es ++ List.replicate m z))),(id,none)],[id]⟩ (.slice (some ⟨b',0,none⟩) (es.length + m) cap) w':=by
       intro cur' w' hh' hs' hw' hS' hcells;obtain ⟨q1,q2⟩:=hR.move (w':=w') (l:=.row b' i.size (es ++ List.replicate m z).length c') (row:=.arr i.size (es ++ List.replicate m z)) hF.head hr (has_row hk) rfl hw' hS' (fun hkeep =>
        .inr ⟨b',c',cur',te,Ids.set_self ..,hh',hs',by simp; omega,hmax,h0,helx,fun j y hy => by
         obtain ⟨v,h1,h2⟩:=hcells j y hy;exact ⟨v,h1,h2.mono (fun _ h => h) hkeep⟩⟩)
       refine ⟨_,S,?_,q1,q2,set_outside⟩;exact .slice s 0 _ cap b' i.size (es ++ List.replicate m z).length c' _ (Ids.set_self ..) (by simp) (by simp; omega) (by omega) (by simp)
      rcases Nat.eq_zero_or_pos m with rfl | hmp
      ·refine ⟨_,_,hexec (run_appendZ_none ht hu hi ⟨b',0,none⟩ es.length cap hcap1),?_⟩
       have:=move (cur':=cur) (w':=w) hh hs (fun _ _ => rfl) (Same.refl w) (fun j y hy => by simp only [List.replicate_zero,List.append_nil] at hy; exact hf j y hy)
       simpa using this
      ·have hfit : es.length * i.size + (Builtin.zeroCells zv.cells m).toList.length≤cur.size:=by
        refine Nat.le_trans ?_ hs;rw [hzl2,← Nat.add_mul]; exact Nat.mul_le_mul_right _ (by omega)
       refine ⟨_,_,hexec (run_appendZ_in (te:=te) ht hu hi hzv m (by omega) hmp hby h0 b' es.length cap cur hh hin hone hfit),move (setRow_heap w b' cur _ te _ hh) (by simp at hfit ⊢; omega) (fun b hb => setRow_other w b' b _ hb) (Same.setRow ..) (fun j y hy => ?_)⟩
       simp only [List.getElem?_toArray];rw [getElem?_spliced _ _ _ _ (by simpa using hfit)]
       rw [flat_append] at hy;by_cases hj1 : j < es.length * i.size
       ·rw [if_pos hj1]
        rw [List.getElem?_append_left (by omega)] at hy
        obtain ⟨v,h1,h2⟩:=hf j y hy;exact ⟨v,by rw [Array.getElem?_toList]; exact h1,h2⟩
       ·rw [if_neg hj1]
        rw [List.getElem?_append_right (by omega),hef] at hy
        obtain ⟨v,h1,h2⟩:=hrelz _ y hy;have hj2 : j - es.length * i.size < m * i.size:=by rw [← hzf]; exact (List.getElem?_eq_some_iff.1 hy).1
        rw [if_pos (by rw [hzl2]; omega),Array.getElem?_toList]
        exact ⟨v,h1,h2⟩
     ·have hmp : 0 < m:=by omega
      have hcapge:=grownCap_ge w (es.length + m) cap el;have hcm : grownCap w (es.length + m) cap el≤maxLen:=grownCap_le_maxLen w _ cap el (by simp only [maxLen]; omega)
      have hfitold : es.length * i.size≤cur.size:=Nat.le_trans (Nat.mul_le_mul_right _ (by omega)) hs
      have hrun:=run_appendZ_grow (P:=P) (w:=w) (ty:=o.type) ht hu hi hzv m (by omega) hmp hby h0 ⟨b',0,none⟩ es.length cap (cur.toList.take (es.length * i.size)) (by simp; omega) (fun j v hv => by
       have hj : j < es.length * i.size:=by have:=(List.getElem?_eq_some_iff.1 hv).1; simp at this; omega
       rw [Addr.add_lit,Nat.zero_add,cell_of_row w b' _ cur te (0,0) hh];rw [List.getElem?_take,if_pos hj,Array.getElem?_toList] at hv;exact hv) hin hcap1 hl1
      have hgone : RowsOk P Γ Own σ S w (updR [(id,none)] R):=hR.restrict fun j r hj => by
       simp only [updR] at hj;split at hj
       ·cases hj
       ·exact hj
      have hsize : ((cur.toList.take (es.length * i.size)).toArray ++ Builtin.zeroCells zv.cells m ++ Builtin.zeroCells zv.cells (grownCap w (es.length + m) cap el - (es.length + m))).size = grownCap w (es.length + m) cap el * i.size:=by
       rw [Array.size_append,Array.size_append,zeroCells_eq,zeroCells_eq,hzsz];simp only [List.size_toArray,List.length_take,Array.length_toList];rw [Nat.min_eq_left hfitold,← Nat.add_mul,← Nat.add_mul]; congr 1; omega
      obtain ⟨σ',S',p1,p2,p3,p4⟩:=new_arr (t:=el) (es:=es ++ List.replicate m z) (rd:=[]) hgone hF (fun b hb => heap_alloc_old w.drew _ b hb) ((Same.drew w).trans (Same.alloc ..)) (heap_alloc_new w.drew _) hsize (by simpa using hcapge) hcm h0 helx (fun j y hy => by
       rw [flat_append] at hy;have htl : ((cur.toList.take (es.length * i.size)).toArray).size = es.length * i.size:=by simp; omega
       by_cases hj1 : j < es.length * i.size
       ·rw [List.getElem?_append_left (by omega)] at hy
        obtain ⟨v,h1,h2⟩:=hf j y hy;refine ⟨v,?_,h2⟩;rw [Array.getElem?_append_left (by rw [Array.size_append,htl]; omega),Array.getElem?_append_left (by omega),List.getElem?_toArray,List.getElem?_take,if_pos hj1,Array.getElem?_toList]
        exact h1
       ·rw [List.getElem?_append_right (by omega),hef] at hy
        obtain ⟨v,h1,h2⟩:=hrelz _ y hy;have hj2 : j - es.length * i.size < m * i.size:=by rw [← hzf]; exact (List.getElem?_eq_some_iff.1 hy).1
        refine ⟨v,?_,h2⟩;rw [Array.getElem?_append_left (by rw [Array.size_append,htl,hzn]; omega),Array.getElem?_append_right (by omega),htl]
        exact h1)
      refine ⟨_,_,hexec hrun,σ',S',by simpa using p1,?_,p3,p4⟩
      rw [updR_cons];exact p2
   ·cases h
  ·cases h
 ·cases h
theorem appY_sound {t u el : TypeId} {k : IntKind} {i : TypeInfo} {z : AV} {d x : Operand} {ad ax : AOpd} {t1 t2 : Option TypeId} (hT : TmpsOk σ S w T a) (hR : RowsOk P Γ Own σ S w R) (hF : Free Own σ w s)
  (ho : o.op = .call ⟨.builtin .append,#[d,x],#[t,u]⟩) (ht : P.underlying t = some (.slice el)) (hu : P.underlying u = some (.int k)) (hi : P.info? el = some i) (hz : zeroOf P el = some z)
  (h0 : 0 < i.size) (hby : i.bytes≤4096) (hzl : z.cells.length = i.size) (hzs : z.cells.all AV.scalar = true) (hd : opd P t1 d = some ad) (hx : opd P t2 x = some ax) (h : evAppY s (getO T) R i.size z ad ax = some e) :
  ∃ v w',OpRuns P a o w v w'∧Step P Γ Own σ S w R s e v w':=by
 unfold evAppY at h;split at h
 ·rename_i v0 m hgd hgx
  split at h
  ·exact appZ_sound hT hR hF ho ht hu hi hz h0 hby hzl hzs hd hx h
  ·have hzs' : ∀ c ∈ z.cells,c.scalar = true:=by simpa using hzs
   have hz':=hz;unfold zeroOf at hz;rw [hi] at hz;simp only at hz;split at hz
   ·rename_i zv hzv
    split at hz
    ·rename_i hzsz
     exact appW_sound hR hF ho ht hu hi hzv hzsz (ofVal_rel hz) h0 hby hzl hzs' rfl (Yp hT hd hgd) (Yp hT hx hgx).int_inv h
    ·cases hz
   ·cases hz
 ·cases h
theorem unNil_rel {v : Value} {x : AV} (h : RelV σ S w v x) : RelV σ S w v (unNil x):=by
 unfold unNil;split
 ·cases h with
  | imm h => cases h; exact .imm (.nil none 0)
 ·exact h
theorem append_sound {t el : TypeId} {i : TypeInfo} {z : Value} {d x : Operand} {ad ax : AOpd} {t1 t2 : Option TypeId} (hT : TmpsOk σ S w T a) (hR : RowsOk P Γ Own σ S w R) (hF : Free Own σ w s)
  (ho : o.op = .call ⟨.builtin .append,#[d,x],#[t,t]⟩) (ht : P.underlying t = some (.slice el)) (hi : P.info? el = some i) (hz : i.zero = some z) (hzs : z.cells.size = i.size)
  (h0 : 0 < i.size) (hby : i.bytes≤4096) (hd : opd P t1 d = some ad) (hx : opd P t2 x = some ax) (h : evAppend s (getO T) R i.size ad ax = some e) :
  ∃ v w',OpRuns P a o w v w'∧Step P Γ Own σ S w R s e v w':=by
 have hexec : ∀ {v : Value} {w' : World},(Builtin.append_ #[t,t] o.type #[a.eval d,a.eval x]).run P w = .ok v w' → OpRuns P a o w v w':=by
  intro v w' hr;refine .inl ?_;simp only [execOp,ho,resolve,invoke,builtin,pure_bind,Sem.run_bind,List.map_toArray,List.map_cons,List.map_nil,hr,Result.andThen_ok,Sem.run_pure]
 have hroom : ∀ k : Nat,k≤roomMax → k * i.bytes≤140737488355328:=by
  intro k hk;have h1 : k * i.bytes≤34359738368 * 4096:=Nat.mul_le_mul hk hby;omega
 unfold evAppend at h;split at h
 ·rename_i dv xv hgd hgx
  have hvd:=unNil_rel (Yp hT hd hgd);generalize unNil dv = dv at hvd h;have hvx:=Yp hT hx hgx;generalize hed : a.eval d = vd at hvd hexec;generalize hex : a.eval x = vx at hvx hexec;split at h
  ·rename_i xs ids hxs
   obtain ⟨axd,capx,rfl,hxe,hsrc⟩:=elems_src hR hvx hxs;have hxf:=flat_length hxe;have hxone : ∀ {news : List Value},news.length = xs.length * i.size → (∀ (j : Nat) u x,news[j]? = some u → (flat xs)[j]? = some x → RelI S w u x) → ∀ u ∈ news,u.oneCell' = true:=by
    intro news hl hr u hu;obtain ⟨j,hj,rfl⟩:=List.getElem_of_mem hu;have hj' : j < (flat xs).length:=by omega
    refine (hr j _ _ (List.getElem?_eq_getElem hj) (List.getElem?_eq_getElem hj')).oneCell ?_;have hm:=List.getElem_mem hj';unfold flat at hm;obtain ⟨y,hy,hyc⟩:=List.mem_flatMap.1 hm;exact (hxe y hy).2 _ hyc
   split at h
   ·-- nil
    rename_i sz0;split at h
    ·rename_i hle
     simp only [Option.some.injEq] at h; subst h
     have hvd' : ∃ b,vd = .slice b 0 0:=by cases hvd with | imm hvd => cases hvd; exact ⟨_,rfl⟩
     obtain ⟨base,rfl⟩:=hvd';by_cases hx0 : xs = []
     ·subst hx0
      have hrun:=run_append_zero (P:=P) (w:=w) (ty:=o.type) ht hi (base:=base) (ad:=axd) (n:=0) (c:=0) (cap:=capx) (Nat.le_refl _);refine ⟨_,_,hexec hrun,?_⟩;obtain ⟨q1,q2⟩:=hR.alloc (w':=w) (l:=.virt) (row:=.arr i.size []) hF.head hF.own (fun b hb => by cases hb) (fun _ _ => rfl) (Same.refl w) (.inl ⟨Ids.set_self ..,rfl⟩)
      exact ⟨_,S,.sliceV s base (Ids.set_self ..),q1,q2,set_outside⟩
     ·obtain ⟨b,ofs,rfl,news,n1,n2,n3⟩:=hsrc hx0
      have hlpos : 0 < xs.length:=List.length_pos_iff.2 hx0;have hn2 : ∀ (j : Nat) u,news[j]? = some u → w.cell? ((⟨b,ofs,none⟩ : Addr).add j) = some u:=fun j u hu => by rw [Addr.add_lit]; exact n2 j u hu
      have hbytes:=hroom _ hle;have hle' : xs.length≤34359738368:=hle;have hcapge:=grownCap_ge w xs.length 0 el;have hcm : grownCap w xs.length 0 el≤maxLen:=grownCap_le_maxLen w _ 0 el (by simp only [maxLen]; omega)
      have hrun : (Builtin.append_ #[t,t] o.type #[.slice base 0 0,.slice (some ⟨b,ofs,none⟩) xs.length capx]).run P w =
        .ok (.slice (some ⟨w.heap.size,0,none⟩) xs.length (grownCap w xs.length 0 el)) (w.drew.alloc (.cells (news.toArray ++ Builtin.zeroCells z.cells (grownCap w xs.length 0 el - xs.length)) el)):=by
       cases base with
       | none => exact run_append_nil (P:=P) w t o.type el i z ht hi hz _ _ _ news n1 hn2 hlpos (by omega) (by omega)
       | some b0 =>
        have:=run_append_grow (P:=P) w t o.type el i z ht hi hz b0 0 0 [] (by simp) (by simp) ⟨b,ofs,none⟩ xs.length capx news n1 hn2 (by omega) (by omega) (growslice_fits (by omega) (by simpa using hbytes))
        simpa using this
      have hsize : (news.toArray ++ Builtin.zeroCells z.cells (grownCap w xs.length 0 el - xs.length)).size = grownCap w xs.length 0 el * i.size:=by
       rw [Array.size_append,zeroCells_eq,hzs];simp only [List.size_toArray,n1];rw [← Nat.add_mul]; congr 1; omega
      refine ⟨_,_,hexec hrun,new_arr (t:=el) hR hF (fun b hb => heap_alloc_old w.drew _ b hb) ((Same.drew w).trans (Same.alloc ..)) (heap_alloc_new w.drew _) hsize hcapge hcm h0 hxe (fun j y hy => ?_)⟩
      have hj : j < news.length:=by rw [n1,← hxf]; exact (List.getElem?_eq_some_iff.1 hy).1
      refine ⟨news[j],?_,n3 j _ y (List.getElem?_eq_getElem hj) hy⟩;rw [Array.getElem?_append_left (by simpa using hj)]
      simp [hj]
    ·cases h
   ·-- a row
    rename_i id off len;split at h
    ·rename_i sz' es hr
     split at h
     ·rename_i hc
      obtain ⟨rfl,rfl⟩:=hc;split at h
      ·rename_i hfull
       split at h
       ·rename_i hle
        simp only [Option.some.injEq] at h; subst h
        have hle' : len + xs.length≤34359738368:=hle;have hbytes:=hroom _ hle;rcases hR.ok id _ hr with ⟨hk,rfl⟩ | ⟨b',c',cur,te,hk,hh,hs,hn',hmax,hp',hel,hf⟩
        ·-- nowhere: as nil
         have hvd' : ∃ b,vd = .slice b 0 0∧len = 0:=by
          cases hvd with
          | imm hvd => cases hvd
          | sliceV id b hσ => exact ⟨b,rfl,rfl⟩
          | slice id off len cap b sz n' c ad hσ q1 q2 q3 q4 => rw [hk] at hσ; cases hσ
         obtain ⟨base,rfl,rfl⟩:=hvd';have hgone : RowsOk P Γ Own σ S w (updR [(id,none)] R):=hR.restrict fun j r hj => by
          simp only [updR] at hj;split at hj
          ·cases hj
          ·exact hj
         by_cases hx0 : xs = []
         ·subst hx0
          have hrun:=run_append_zero (P:=P) (w:=w) (ty:=o.type) ht hi (base:=base) (ad:=axd) (n:=0) (c:=0) (cap:=capx) (Nat.le_refl _);refine ⟨_,_,hexec hrun,?_⟩;obtain ⟨q1,q2⟩:=hgone.alloc (w':=w) (l:=.virt) (row:=.arr i.size []) hF.head hF.own (fun b hb => by cases hb) (fun _ _ => rfl) (Same.refl w) (.inl ⟨Ids.set_self ..,rfl⟩)
          refine ⟨_,S,.sliceV s base (Ids.set_self ..),?_,q2,set_outside⟩;rw [← updR_cons] at q1;simpa using q1
         ·obtain ⟨b,ofs,rfl,news,n1,n2,n3⟩:=hsrc hx0
          have hlpos : 0 < xs.length:=List.length_pos_iff.2 hx0;have hn2 : ∀ (j : Nat) u,news[j]? = some u → w.cell? ((⟨b,ofs,none⟩ : Addr).add j) = some u:=fun j u hu => by rw [Addr.add_lit]; exact n2 j u hu
          have hcapge:=grownCap_ge w xs.length 0 el;have hcm : grownCap w xs.length 0 el≤maxLen:=grownCap_le_maxLen w _ 0 el (by simp only [maxLen]; omega)
          have hrun : (Builtin.append_ #[t,t] o.type #[.slice base 0 0,.slice (some ⟨b,ofs,none⟩) xs.length capx]).run P w =
            .ok (.slice (some ⟨w.heap.size,0,none⟩) xs.length (grownCap w xs.length 0 el)) (w.drew.alloc (.cells (news.toArray ++ Builtin.zeroCells z.cells (grownCap w xs.length 0 el - xs.length)) el)):=by
           cases base with
           | none => exact run_append_nil (P:=P) w t o.type el i z ht hi hz _ _ _ news n1 hn2 hlpos (by omega) (by simp only [Nat.zero_add] at hbytes; omega)
           | some b0 =>
            have:=run_append_grow (P:=P) w t o.type el i z ht hi hz b0 0 0 [] (by simp) (by simp) ⟨b,ofs,none⟩ xs.length capx news n1 hn2 (by omega) (by omega) (growslice_fits (by omega) (by simpa using hbytes))
            simpa using this
          have hsize : (news.toArray ++ Builtin.zeroCells z.cells (grownCap w xs.length 0 el - xs.length)).size = grownCap w xs.length 0 el * i.size:=by
           rw [Array.size_append,zeroCells_eq,hzs];simp only [List.size_toArray,n1];rw [← Nat.add_mul]; congr 1; omega
          obtain ⟨σ',S',p1,p2,p3,p4⟩:=new_arr (t:=el) (rd:=[]) hgone hF (fun b hb => heap_alloc_old w.drew _ b hb) ((Same.drew w).trans (Same.alloc ..)) (heap_alloc_new w.drew _) hsize hcapge hcm h0 hxe (fun j y hy => by
           have hj : j < news.length:=by rw [n1,← hxf]; exact (List.getElem?_eq_some_iff.1 hy).1
           refine ⟨news[j],?_,n3 j _ y (List.getElem?_eq_getElem hj) hy⟩;rw [Array.getElem?_append_left (by simpa using hj)]
           simp [hj])
          refine ⟨_,_,hexec hrun,σ',S',by simpa using p1,?_,p3,p4⟩
          rw [updR_cons];simpa using p2
        ·-- a block
         have hvd' : ∃ ad cap,vd = .slice (some ad) len cap∧es.length≤cap∧cap = c'∧(cap ≠ 0 → ad = ⟨b',0,none⟩):=by
          cases hvd with
          | imm hvd => cases hvd
          | slice id off len cap b sz n' c ad hσ q1 q2 q3 q4 =>
           have q:=hk.symm.trans hσ;simp only [Option.some.injEq,Loc.row.injEq] at q;obtain ⟨rfl,rfl,rfl,rfl⟩:=q;exact ⟨ad,cap,rfl,by omega,by omega,by simpa using q4⟩
          | sliceV id b hσ => rw [hk] at hσ; cases hσ
         obtain ⟨bd,cap,rfl,hcap1,hcap2,hbd⟩:=hvd';subst hfull;have hef:=flat_length hel;have helx : ∀ e ∈ es ++ xs,Elem i.size e:=fun e hm => by
          rcases List.mem_append.1 hm with hm | hm
          ·exact hel e hm
          ·exact hxe e hm
         by_cases hin : es.length + xs.length≤cap
         ·-- in its place
          have move : ∀ {cur' : Array Value} {w' : World},w'.heap[b']? = some (.cells cur' te (0,0)) → c' * i.size≤cur'.size → (∀ b,b ≠ b' → w'.heap[b]? = w.heap[b]?) → Same w w' →
            (∀ (j : Nat) y,(flat (es ++ xs))[j]? = some y → ∃ v,cur'[j]? = some v∧RelI S w v y) →
            Step P Γ Own σ S w R s ⟨.slice s 0 (es.length + xs.length),[(s,some (.arr i.size (es ++ xs))),(id,none)],id :: ids⟩ (.slice (some bd) (es.length + xs.length) cap) w':=by
           intro cur' w' hh' hs' hw' hS' hcells;obtain ⟨q1,q2⟩:=hR.move (w':=w') (l:=.row b' i.size (es ++ xs).length c') (row:=.arr i.size (es ++ xs)) hF.head hr (has_row hk) rfl hw' hS' (fun hkeep =>
            .inr ⟨b',c',cur',te,Ids.set_self ..,hh',hs',by simp; omega,hmax,h0,helx,fun j y hy => by
             obtain ⟨v,h1,h2⟩:=hcells j y hy;exact ⟨v,h1,h2.mono (fun _ h => h) hkeep⟩⟩)
           refine ⟨_,S,?_,q1,q2,set_outside⟩;exact .slice s 0 _ cap b' i.size (es ++ xs).length c' bd (Ids.set_self ..) (by simp) (by simp; omega) (by omega) (by simpa using hbd)
          by_cases hx0 : xs = []
          ·subst hx0
           have hrun:=run_append_zero (P:=P) (w:=w) (ty:=o.type) ht hi (base:=some bd) (ad:=axd) (n:=es.length) (c:=cap) (cap:=capx) hcap1;refine ⟨_,_,hexec hrun,?_⟩;have:=move (cur':=cur) (w':=w) hh hs (fun _ _ => rfl) (Same.refl w) (fun j y hy => by simp only [List.append_nil] at hy; exact hf j y hy)
           simpa using this
          ·obtain ⟨b,ofs,rfl,news,n1,n2,n3⟩:=hsrc hx0
           have hlpos : 0 < xs.length:=List.length_pos_iff.2 hx0;have hn2 : ∀ (j : Nat) u,news[j]? = some u → w.cell? ((⟨b,ofs,none⟩ : Addr).add j) = some u:=fun j u hu => by rw [Addr.add_lit]; exact n2 j u hu
           have hbd':=hbd (by omega)
           subst hbd';have hfit : es.length * i.size + news.length≤cur.size:=by
            refine Nat.le_trans ?_ hs;rw [n1,← Nat.add_mul]; exact Nat.mul_le_mul_right _ (by omega)
           have hrun:=run_append_in (P:=P) (w:=w) t o.type el te i ht hi b' es.length cap cur hh ⟨b,ofs,none⟩ xs.length capx news n1 hn2 (hxone n1 n3) hin hfit;refine ⟨_,_,hexec hrun,move (setRow_heap w b' cur _ te _ hh) (by simp; omega) (fun b hb => setRow_other w b' b _ hb) (Same.setRow ..) (fun j y hy => ?_)⟩
           simp only [List.getElem?_toArray];rw [getElem?_spliced _ _ _ _ (by simpa using hfit)]
           rw [flat_append] at hy;by_cases hj1 : j < es.length * i.size
           ·rw [if_pos hj1]
            rw [List.getElem?_append_left (by omega)] at hy
            obtain ⟨v,h1,h2⟩:=hf j y hy;exact ⟨v,by rw [Array.getElem?_toList]; exact h1,h2⟩
           ·rw [if_neg hj1]
            rw [List.getElem?_append_right (by omega),hef] at hy
            have hj2 : j - es.length * i.size < news.length:=by rw [n1,← hxf]; exact (List.getElem?_eq_some_iff.1 hy).1
            rw [if_pos (by omega)]
            exact ⟨_,List.getElem?_eq_getElem hj2,n3 _ _ y (List.getElem?_eq_getElem hj2) hy⟩
         ·-- a new block
          have hx0 : xs ≠ []:=by rintro rfl; simp at hin; omega
          obtain ⟨b,ofs,rfl,news,n1,n2,n3⟩:=hsrc hx0;have hn2 : ∀ (j : Nat) u,news[j]? = some u → w.cell? ((⟨b,ofs,none⟩ : Addr).add j) = some u:=fun j u hu => by rw [Addr.add_lit]; exact n2 j u hu
          have hcapge:=grownCap_ge w (es.length + xs.length) cap el;have hcm : grownCap w (es.length + xs.length) cap el≤maxLen:=grownCap_le_maxLen w _ cap el (by simp only [maxLen]; omega)
          have hfitold : es.length * i.size≤cur.size:=Nat.le_trans (Nat.mul_le_mul_right _ (by omega)) hs
          have hrun:=run_append_grow (P:=P) w t o.type el i z ht hi hz bd es.length cap (cur.toList.take (es.length * i.size)) (by simp; omega) (fun j v hv => by
            have hj : j < es.length * i.size:=by have:=(List.getElem?_eq_some_iff.1 hv).1; simp at this; omega
            have hpos : es.length ≠ 0:=by intro h0; rw [h0] at hj; omega
            rw [hbd (by omega),Addr.add_lit,Nat.zero_add,cell_of_row w b' _ cur te (0,0) hh]
            rw [List.getElem?_take,if_pos hj,Array.getElem?_toList] at hv;exact hv) ⟨b,ofs,none⟩ xs.length capx news n1 hn2 (by omega) (by omega) (growslice_fits (by omega) hbytes)
          have hgone : RowsOk P Γ Own σ S w (updR [(id,none)] R):=hR.restrict fun j r hj => by
           simp only [updR] at hj;split at hj
           ·cases hj
           ·exact hj
          have hsize : ((cur.toList.take (es.length * i.size)).toArray ++ news.toArray ++ Builtin.zeroCells z.cells (grownCap w (es.length + xs.length) cap el - (es.length + xs.length))).size = grownCap w (es.length + xs.length) cap el * i.size:=by
           rw [Array.size_append,Array.size_append,zeroCells_eq,hzs];simp only [List.size_toArray,n1,List.length_take,Array.length_toList];rw [Nat.min_eq_left hfitold,← Nat.add_mul,← Nat.add_mul]; congr 1; omega
          obtain ⟨σ',S',p1,p2,p3,p4⟩:=new_arr (t:=el) (es:=es ++ xs) (rd:=[]) hgone hF (fun b hb => heap_alloc_old w.drew _ b hb) ((Same.drew w).trans (Same.alloc ..)) (heap_alloc_new w.drew _) hsize (by simpa using hcapge) hcm h0 helx (fun j y hy => by
           rw [flat_append] at hy;have htl : ((cur.toList.take (es.length * i.size)).toArray).size = es.length * i.size:=by simp; omega
           by_cases hj1 : j < es.length * i.size
           ·rw [List.getElem?_append_left (by omega)] at hy
            obtain ⟨v,h1,h2⟩:=hf j y hy;refine ⟨v,?_,h2⟩;rw [Array.getElem?_append_left (by simp; omega),Array.getElem?_append_left (by omega),List.getElem?_toArray,List.getElem?_take,if_pos hj1,Array.getElem?_toList]
            exact h1
           ·rw [List.getElem?_append_right (by omega),hef] at hy
            have hj2 : j - es.length * i.size < news.length:=by rw [n1,← hxf]; exact (List.getElem?_eq_some_iff.1 hy).1
            refine ⟨_,?_,n3 _ _ y (List.getElem?_eq_getElem hj2) hy⟩;rw [Array.getElem?_append_left (by simp; omega),Array.getElem?_append_right (by omega),htl,List.getElem?_toArray]
            exact List.getElem?_eq_getElem hj2)
          refine ⟨_,_,hexec hrun,σ',S',by simpa using p1,?_,p3,p4⟩
          rw [updR_cons];exact p2
       ·cases h
      ·split at h
       ·rename_i hnf hle
        simp only [Option.some.injEq] at h; subst h
        rcases hR.ok id _ hr with ⟨hk,rfl⟩ | ⟨b',c',cur,te,hk,hh,hs,hn',hmax,hp',hel,hf⟩
        ·exact absurd (by simp at hle; simpa using hle.1) hnf
        ·have hvd' : ∃ ad cap,vd = .slice (some ad) len cap∧es.length≤cap∧cap = c'∧(cap ≠ 0 → ad = ⟨b',0,none⟩):=by
          cases hvd with
          | imm hvd => cases hvd
          | slice id off len cap b sz n' c ad hσ q1 q2 q3 q4 =>
           have q:=hk.symm.trans hσ;simp only [Option.some.injEq,Loc.row.injEq] at q;obtain ⟨rfl,rfl,rfl,rfl⟩:=q;exact ⟨ad,cap,rfl,by omega,by omega,by simpa using q4⟩
          | sliceV id b hσ => rw [hk] at hσ; cases hσ
         obtain ⟨bd,cap,rfl,hcap1,hcap2,hbd⟩:=hvd';have hef:=flat_length hel;have hbd':=hbd (by omega)
         subst hbd';have hlen' : (es.take len ++ xs ++ es.drop (len + xs.length)).length = es.length:=by simp; omega
         have hrelv : RelV σ S w (.slice (some ⟨b',0,none⟩) (len + xs.length) cap) (.slice id 0 (len + xs.length)) :=
          .slice id 0 _ cap b' i.size es.length c' _ hk (by omega) (by omega) (by omega) (by simp)
         have helx : ∀ e ∈ es.take len ++ xs ++ es.drop (len + xs.length),Elem i.size e:=fun e hm => by
          simp only [List.mem_append] at hm;rcases hm with (hm | hm) | hm
          ·exact hel e (List.mem_of_mem_take hm)
          ·exact hxe e hm
          ·exact hel e (List.mem_of_mem_drop hm)
         have hflx : flat (es.take len ++ xs ++ es.drop (len + xs.length)) = (flat es).take (len * i.size) ++ flat xs ++ (flat es).drop (len * i.size + (flat xs).length):=by
          rw [flat_append,flat_append,flat_take hel,flat_drop hel,hxf,Nat.add_mul]
         have hffit : len * i.size + (flat xs).length≤(flat es).length:=by
          rw [hxf,hef,← Nat.add_mul]; exact Nat.mul_le_mul_right _ hle
         have turn : ∀ {cur' : Array Value} {w' : World},w'.heap[b']? = some (.cells cur' te (0,0)) → c' * i.size≤cur'.size → (∀ b,b ≠ b' → w'.heap[b]? = w.heap[b]?) → Same w w' →
           (∀ (j : Nat) y,(flat (es.take len ++ xs ++ es.drop (len + xs.length)))[j]? = some y → ∃ v,cur'[j]? = some v∧RelI S w v y) →
           Step P Γ Own σ S w R s ⟨.slice id 0 (len + xs.length),[(id,some (.arr i.size (es.take len ++ xs ++ es.drop (len + xs.length))))],id :: ids⟩ (.slice (some ⟨b',0,none⟩) (len + xs.length) cap) w':=by
          intro cur' w' hh' hs' hw' hS' hcells;obtain ⟨q1,q2⟩:=hR.turn (w':=w') (row:=.arr i.size (es.take len ++ xs ++ es.drop (len + xs.length))) hr (has_row hk) hw' hS' (fun hkeep =>
           .inr ⟨b',c',cur',te,by rw [hlen']; exact hk,hh',hs',by omega,hmax,h0,helx,fun j y hy => by
            obtain ⟨v,h1,h2⟩:=hcells j y hy;exact ⟨v,h1,h2.mono (fun _ h => h) hkeep⟩⟩)
          exact ⟨σ,S,hrelv.ext q2,q1,q2,fun _ _ => rfl⟩
         by_cases hx0 : xs = []
         ·subst hx0
          have hrun:=run_append_zero (P:=P) (w:=w) (ty:=o.type) ht hi (base:=some ⟨b',0,none⟩) (ad:=axd) (n:=len) (c:=cap) (cap:=capx) (by omega)
          refine ⟨_,_,hexec hrun,?_⟩;have:=turn (cur':=cur) (w':=w) hh hs (fun _ _ => rfl) (Same.refl w) (fun j y hy => by
           simp only [List.length_nil,Nat.add_zero,List.append_nil,List.take_append_drop] at hy;exact hf j y hy)
          simpa using this
         ·obtain ⟨b,ofs,rfl,news,n1,n2,n3⟩:=hsrc hx0
          have hn2 : ∀ (j : Nat) u,news[j]? = some u → w.cell? ((⟨b,ofs,none⟩ : Addr).add j) = some u:=fun j u hu => by rw [Addr.add_lit]; exact n2 j u hu
          have hfit : len * i.size + news.length≤cur.size:=by
           refine Nat.le_trans ?_ hs;rw [n1,← Nat.add_mul]; exact Nat.mul_le_mul_right _ (by omega)
          have hrun:=run_append_in (P:=P) (w:=w) t o.type el te i ht hi b' len cap cur hh ⟨b,ofs,none⟩ xs.length capx news n1 hn2 (hxone n1 n3) (by omega) hfit
          refine ⟨_,_,hexec hrun,turn (setRow_heap w b' cur _ te _ hh) (by simp; omega) (fun b hb => setRow_other w b' b _ hb) (Same.setRow ..) (fun j y hy => ?_)⟩
          simp only [List.getElem?_toArray];rw [getElem?_spliced _ _ _ _ (by simpa using hfit)]
          rw [hflx,getElem?_spliced _ _ _ _ hffit] at hy;have hnl : news.length = (flat xs).length:=by omega
          by_cases hj1 : j < len * i.size
          ·rw [if_pos hj1] at hy ⊢
           obtain ⟨v,h1,h2⟩:=hf j y hy;exact ⟨v,by rw [Array.getElem?_toList]; exact h1,h2⟩
          ·rw [if_neg hj1] at hy ⊢
           by_cases hj2 : j < len * i.size + (flat xs).length
           ·rw [if_pos hj2] at hy
            rw [if_pos (by omega)]
            have hj3 : j - len * i.size < news.length:=by omega
            exact ⟨_,List.getElem?_eq_getElem hj3,n3 _ _ y (List.getElem?_eq_getElem hj3) hy⟩
           ·rw [if_neg hj2] at hy
            rw [if_neg (by omega)]
            obtain ⟨v,h1,h2⟩:=hf j y hy;exact ⟨v,by rw [Array.getElem?_toList]; exact h1,h2⟩
       ·cases h
     ·cases h
    ·cases h
   ·-- without room
    rename_i szc es;split at h
    ·rename_i hc
     obtain ⟨rfl,hx0,hle⟩:=hc;simp only [Option.some.injEq] at h; subst h
     have hx0' : xs ≠ []:=by rintro rfl; simp at hx0
     obtain ⟨b,ofs,rfl,news,n1,n2,n3⟩:=hsrc hx0';have hn2 : ∀ (j : Nat) u,news[j]? = some u → w.cell? ((⟨b,ofs,none⟩ : Addr).add j) = some u:=fun j u hu => by rw [Addr.add_lit]; exact n2 j u hu
     have hbytes:=hroom _ hle;have hle' : es.length + xs.length≤34359738368:=hle;have hcapge:=grownCap_ge w (es.length + xs.length) es.length el;have hcm : grownCap w (es.length + xs.length) es.length el≤maxLen:=grownCap_le_maxLen w _ es.length el (by simp only [maxLen]; omega)
     have hold : ∃ (base : Option Addr) (olds : List Value),vd = .slice base es.length es.length∧olds.length = es.length * i.size∧(∀ e ∈ es,Elem i.size e)∧(∀ (j : Nat) u x,olds[j]? = some u → (flat es)[j]? = some x → RelI S w u x) ∧
       ((base = none∧es = []) ∨ ∃ bd,base = some bd∧∀ (j : Nat) u,olds[j]? = some u → w.cell? (bd.add j) = some u):=by
      cases hvd with
      | imm hvd =>
       cases hvd with
       | clip0 base =>
        refine ⟨base,[],rfl,by simp,by simp,by simp,?_⟩
        cases base with
        | none => exact .inl ⟨rfl,rfl⟩
        | some bd => exact .inr ⟨bd,rfl,by simp⟩
       | clip b1 o1 _ _ f hb he hcl hr =>
        refine ⟨_,(List.range (es.length * i.size)).map f,rfl,by simp,he,fun j u x hu hx => ?_,.inr ⟨_,rfl,fun j u hu => ?_⟩⟩
        ·rw [List.getElem?_map] at hu
         simp only [Option.map_eq_some_iff] at hu;obtain ⟨k,hk,rfl⟩:=hu;have hlt : j < es.length * i.size:=by have:=(List.getElem?_eq_some_iff.1 hk).1; simpa using this
         rw [List.getElem?_range hlt] at hk;cases hk;exact hr j x hx
        ·rw [List.getElem?_map] at hu
         simp only [Option.map_eq_some_iff] at hu;obtain ⟨k,hk,rfl⟩:=hu;have hlt : j < es.length * i.size:=by have:=(List.getElem?_eq_some_iff.1 hk).1; simpa using this
         rw [List.getElem?_range hlt] at hk;cases hk;rw [Addr.add_lit];exact hcl j hlt
     obtain ⟨base,olds,rfl,ol,oe,orl,oc⟩:=hold;have hef:=flat_length oe;have hrun : (Builtin.append_ #[t,t] o.type #[.slice base es.length es.length,.slice (some ⟨b,ofs,none⟩) xs.length capx]).run P w =
       .ok (.slice (some ⟨w.heap.size,0,none⟩) (es.length + xs.length) (grownCap w (es.length + xs.length) es.length el)) (w.drew.alloc (.cells (olds.toArray ++ news.toArray ++ Builtin.zeroCells z.cells (grownCap w (es.length + xs.length) es.length el - (es.length + xs.length))) el)):=by
      rcases oc with ⟨rfl,he0⟩ | ⟨bd,rfl,hcells⟩
      ·subst he0
       have hol : olds = []:=List.eq_nil_of_length_eq_zero (by simpa using ol)
       subst hol;have:=run_append_nil (P:=P) w t o.type el i z ht hi hz ⟨b,ofs,none⟩ xs.length capx news n1 hn2 (List.length_pos_iff.2 hx0') (by simp at hle'; omega) (by simp at hbytes; omega)
       simpa using this
      ·exact run_append_grow (P:=P) w t o.type el i z ht hi hz bd es.length es.length olds ol hcells ⟨b,ofs,none⟩ xs.length capx news n1 hn2 (by have:=List.length_pos_iff.2 hx0'; omega) (by omega) (growslice_fits (by omega) hbytes)
     have hsize : (olds.toArray ++ news.toArray ++ Builtin.zeroCells z.cells (grownCap w (es.length + xs.length) es.length el - (es.length + xs.length))).size = grownCap w (es.length + xs.length) es.length el * i.size:=by
      rw [Array.size_append,Array.size_append,zeroCells_eq,hzs];simp only [List.size_toArray,n1,ol];rw [← Nat.add_mul,← Nat.add_mul]; congr 1; omega
     have helx : ∀ y ∈ es ++ xs,Elem i.size y:=fun y hy => (List.mem_append.1 hy).elim (oe y) (hxe y)
     have key:=new_arr (t:=el) (es:=es ++ xs) (rd:=ids) hR hF (fun b hb => heap_alloc_old w.drew _ b hb) ((Same.drew w).trans (Same.alloc ..)) (heap_alloc_new w.drew _) hsize (by simpa using hcapge) hcm h0 helx (fun j y hy => by
      rw [flat_append] at hy;by_cases hj1 : j < es.length * i.size
      ·rw [List.getElem?_append_left (by omega)] at hy
       have hjo : j < olds.length:=by omega
       refine ⟨olds[j],?_,orl j _ y (List.getElem?_eq_getElem hjo) hy⟩;rw [Array.getElem?_append_left (by simp; omega),Array.getElem?_append_left (by simp; omega)]
       simp [hjo]
      ·rw [List.getElem?_append_right (by omega),hef] at hy
       have hj2 : j - es.length * i.size < news.length:=by rw [n1,← hxf]; exact (List.getElem?_eq_some_iff.1 hy).1
       refine ⟨_,?_,n3 _ _ y (List.getElem?_eq_getElem hj2) hy⟩;rw [Array.getElem?_append_left (by simp; omega),Array.getElem?_append_right (by simp; omega)]
       simp only [List.size_toArray,ol,List.getElem?_toArray];exact List.getElem?_eq_getElem hj2)
     refine ⟨_,_,hexec hrun,?_⟩;simpa using key
    ·cases h
   ·cases h
  ·cases h
 ·cases h
end
end Go.Abs
namespace Go.Abs
section
variable {P : Program} {Γ : Gam} {Own : Nat → Prop} {σ : Ids} {S : Nat → Prop} {w : World} {R : Nat → Option Row} {s : Nat} {T : Nat → Option AV} {a : Act} {o : Oper} {e : Eff}
theorem mkMap_sound {t : TypeId} {k : IntKind} (hR : RowsOk P Γ Own σ S w R) (hF : Free Own σ w s) (ho : o.op = .makeMap t none) (call : CallF)
  (h : evalOp call s (getO T) R (.mkMap k) = some e) : ∃ v w',OpRuns P a o w v w'∧Step P Γ Own σ S w R s e v w':=by
 simp only [evalOp,Option.some.injEq] at h; subst h
 refine ⟨.map (some w.heap.size),w.alloc (.map #[] 0),.inl (by simp [execOp,ho,Instr.makeMap]),?_⟩
 obtain ⟨q1,q2⟩:=hR.alloc (w':=w.alloc (.map #[] 0)) (l:=.map w.heap.size) (row:=.mp k []) hF.head hF.own (fun b hb => List.mem_singleton.1 hb)
  (fun b hb => heap_alloc_old w _ b hb) (Same.alloc w _) ⟨w.heap.size,#[],0,Ids.set_self ..,heap_alloc_new w _,by simp,by simp⟩
 exact ⟨_,S,.mapp s _ (Ids.set_self ..),q1,q2,set_outside⟩
def EntryOk (S : Nat → Prop) (w : World) (k : IntKind) (e : MapEntry) (x : Int × AV) : Prop:=e.key = .int k x.1∧RelI S w e.val x.2∧x.2.mpVal = true
theorem findNow_spec {k kd : IntKind} {n : Int} : ∀ (es : List MapEntry) (kv : List (Int × AV)) (j : Nat),es.length = kv.length → (∀ (i : Nat) x,kv[i]? = some x → ∃ e,es[i]? = some e∧EntryOk S w k e x) →
  (kvGet n kv = none → Instr.findNow (.int kd) (.int k n) es j = some none∧∀ y,kvSet n y kv = kv ++ [(n,y)]) ∧
  (∀ v,kvGet n kv = some v → ∃ i e,kv[i]? = some (n,v)∧es[i]? = some e∧Instr.findNow (.int kd) (.int k n) es j = some (some (j + i,e.val))∧∀ y,kvSet n y kv = kv.set i (n,y))
 | [],[],j,_,_ => by simp [kvGet,Instr.findNow,kvSet]
 | [],_ :: _,_,hl,_ => by simp at hl
 | _ :: _,[],_,hl,_ => by simp at hl
 | m :: es,(j',v') :: kv,j,hl,hr => by
  obtain ⟨m',hm,hk,hrel,hpl⟩:=hr 0 _ rfl;simp at hm; subst hm
  have ih:=findNow_spec (k:=k) (kd:=kd) (n:=n) es kv (j + 1) (by simpa using hl) (fun i x hx => hr (i + 1) x (by simpa using hx))
  have hsame : Instr.sameNow (.int kd) (.int k n) m.key = some (n == j'):=by rw [hk]; simp [Instr.sameNow]
  by_cases hj : j' = n
  ·subst hj
   refine ⟨fun h=>by simp [kvGet] at h,fun v hv => ?_⟩
   simp [kvGet] at hv; subst hv
   exact ⟨0,m,rfl,rfl,by simp [Instr.findNow,hsame],fun y=>by simp [kvSet]⟩
  ·have hne : (n == j') = false:=by simpa using Ne.symm hj
   rw [hne] at hsame;refine ⟨fun h=>?_,fun v hv => ?_⟩
   ·simp only [kvGet,hj,if_false] at h
    obtain ⟨h1,h2⟩:=ih.1 h;exact ⟨by simp only [Instr.findNow,hsame]; exact h1,fun y=>by simp only [kvSet,hj,if_false,h2 y,List.cons_append]⟩
   ·simp only [kvGet,hj,if_false] at hv
    obtain ⟨i,e,h1,h2,h3,h4⟩:=ih.2 v hv;exact ⟨i + 1,e,by simpa using h1,by simpa using h2,by simp only [Instr.findNow,hsame,h3]; congr 3; omega,fun y=>by simp only [kvSet,hj,if_false,h4 y,List.set_cons_succ]⟩
theorem run_checkKey_int {kt : TypeId} {k k' : IntKind} {n : Int} {em : Bool} (ht : P.underlying kt = some (.int k)) : (Instr.checkKey em 10000 kt (.int k' n)).run P w = .ok () w:=by
 show (Instr.checkKey em (9999 + 1) kt (.int k' n)).run P w = .ok () w
 unfold Instr.checkKey;rw [Sem.run_bind,run_underlying ht,Result.andThen_ok];rfl
theorem run_getObj_map' {r : Nat} {es : Array MapEntry} {clock : Nat} (h : w.heap[r]? = some (.map es clock)) : (getObj r).run P w = .ok (.map es clock) w:=by
 simp [getObj,Sem.run,h]
theorem run_setObj_map' {r : Nat} {es : Array MapEntry} {clock : Nat} {o' : Obj} (h : w.heap[r]? = some (.map es clock)) : (setObj r o').run P w = .ok () { w with heap:=w.heap.setIfInBounds r o' }:=by
 simp [setObj,Sem.run,h]
theorem plain1_one {x : AV} (h : x.plain1 = true) {v : Value} (hr : RelV σ S w v x) : RelI S w v x:=by
 cases x <;> simp [AV.plain1] at h
 ·rw [hr.int_inv]; exact .int _ _
 ·rw [hr.bool_inv]; exact .bool _
theorem mapSet_sound {t kt et : TypeId} {kk : IntKind} {m k x : Operand} {am ak ax : AOpd} {t1 t2 t3 : Option TypeId} (hT : TmpsOk σ S w T a) (hR : RowsOk P Γ Own σ S w R)
  (ho : o.op = .mapUpdate t m k x ∨ o.op = .insert t m k x) (ht : P.underlying t = some (.map kt et)) (hkt : P.underlying kt = some (.int kk))
  (hm : opd P t1 m = some am) (hk : opd P t2 k = some ak) (hx : opd P t3 x = some ax) (h : evMapSet (getO T) R kk am ak ax = some e) : ∃ v w',OpRuns P a o w v w'∧Step P Γ Own σ S w R s e v w':=by
 unfold evMapSet at h;split at h
 ·rename_i id kk' n v hgm hgk hgx
  split at h
  ·rename_i hc
   obtain ⟨hpl,rfl⟩:=hc;split at h
   ·rename_i k0 kv hr
    split at h
    ·rename_i hk0
     subst hk0;simp only [Option.some.injEq] at h; subst h
     have hvm:=Yp hT hm hgm;have hvx:=mp_one hpl (Yp hT hx hgx);have hek:=(Yp hT hk hgk).int_inv;generalize hem : a.eval m = vm at hvm;cases hvm with
     | imm hv => cases hv
     | mapp id r hσ =>
      obtain ⟨r',es,clock,hloc,hh,hsz,hes⟩:=hR.ok id _ hr;have q:=hloc.symm.trans hσ;simp only [Option.some.injEq,Loc.map.injEq] at q;subst q;have hund : ∀ {σ' : Ids} {S' : Nat → Prop} {w' : World},RelV σ' S' w' undef (.tuple []):=.tuple #[] [] rfl (by simp)
      have hrlt : r' < w.heap.size:=(Array.getElem?_eq_some_iff.1 hh).1;have hfin : ∀ (es' : Array MapEntry) (clock' : Nat),(Instr.mapUpdate t (.map (some r')) (.int k0 n) (a.eval x)).run P w = .ok () { w with heap:=w.heap.setIfInBounds r' (.map es' clock') } →
        es'.size = (kvSet n v kv).length → (∀ (i : Nat) y,(kvSet n v kv)[i]? = some y → ∃ e,es'[i]? = some e∧EntryOk S w k0 e y) →
        ∃ v' w',OpRuns P a o w v' w'∧Step P Γ Own σ S w R s ⟨.tuple [],[(id,some (.mp k0 (kvSet n v kv)))],[id]⟩ v' w':=by
       intro es' clock' hrun hl hent;refine ⟨undef,{ w with heap:=w.heap.setIfInBounds r' (.map es' clock') },.inr ⟨by rcases ho with ho | ho <;> simp only [execOp,ho,hem,hek,Sem.run_bind,hrun,Result.andThen_ok,Sem.run_pure],rfl⟩,?_⟩
       obtain ⟨q1,q2⟩:=hR.turn (w':={ w with heap:=w.heap.setIfInBounds r' (.map es' clock') }) (row:=.mp k0 (kvSet n v kv)) hr (has_map hloc)
        (fun b hb => Array.getElem?_setIfInBounds_ne (Ne.symm hb)) ⟨rfl,rfl,rfl,by simp⟩ (fun hkeep =>
         ⟨r',es',clock',hloc,by simp [hrlt],hl,fun i y hy => by
          obtain ⟨e,h1,h2,h3,h4⟩:=hent i y hy;exact ⟨e,h1,h2,h3.mono (fun _ h => h) hkeep,h4⟩⟩)
       exact ⟨σ,S,hund,q1,q2,fun _ _ => rfl⟩
      have hspec:=findNow_spec (S:=S) (w:=w) (k:=k0) (kd:=k0) (n:=n) es.toList kv 0 (by simpa using hsz) (fun i x hx => by
       obtain ⟨e,h1,h2,h3,h4⟩:=hes i x hx;exact ⟨e,by rw [Array.getElem?_toList]; exact h1,h2,h3,h4⟩)
      cases hget : kvGet n kv with
      | none =>
       obtain ⟨h1,h2⟩:=hspec.1 hget;refine hfin (es.push { key:=.int k0 n,val:=a.eval x,born:=clock }) (clock + 1) ?_ (by rw [h2]; simp [hsz]) (fun i y hy => ?_)
       ·unfold Instr.mapUpdate
        simp only [Sem.run_bind,run_underlying ht,Result.andThen_ok,run_getObj_map' hh,run_checkKey_int hkt,Instr.findKey,run_underlying hkt,h1,Sem.run_pure,run_setObj_map' hh]
       ·rw [h2] at hy
        by_cases hi : i < kv.length
        ·rw [List.getElem?_append_left hi] at hy
         obtain ⟨e,h1,h2,h3,h4⟩:=hes i y hy;refine ⟨e,?_,h2,h3,h4⟩;rw [Array.getElem?_push_lt (by omega),← Array.getElem?_eq_getElem]; exact h1
        ·rw [List.getElem?_append_right (by omega)] at hy
         have hi' : i = kv.length:=by
          have:=(List.getElem?_eq_some_iff.1 hy).1;simp at this; omega
         subst hi';simp at hy; subst hy
         exact ⟨{ key:=.int k0 n,val:=a.eval x,born:=clock },by rw [← hsz]; simp,rfl,hvx,hpl⟩
      | some v0 =>
       obtain ⟨i,e0,h1,h2,h3,h4⟩:=hspec.2 v0 hget;simp only [Nat.zero_add] at h3;rw [Array.getElem?_toList] at h2;obtain ⟨e1,g1,g2,g3,g4⟩:=hes i _ h1;rw [h2] at g1; cases g1
       refine hfin (es.modify i fun e=>{ e with key:=.int k0 n,val:=a.eval x }) clock ?_ (by rw [h4]; simp [hsz]) (fun j y hy => ?_)
       ·unfold Instr.mapUpdate
        have hstay : (Instr.keyThatStays e0.key (.int k0 n)).run P w = .ok (.int k0 n) w:=by
         have hsb : Instr.sameBits 10000 e0.key (.int k0 n) = true:=by rw [g2]; simp [Instr.sameBits]
         unfold Instr.keyThatStays;rw [hsb];simp
        simp only [Sem.run_bind,run_underlying ht,Result.andThen_ok,run_getObj_map' hh,run_checkKey_int hkt,Instr.findKey,run_underlying hkt,h3,Sem.run_pure,h2,Option.map_some,Option.getD_some,hstay,run_setObj_map' hh]
       ·rw [h4] at hy
        by_cases hij : i = j
        ·subst hij
         have hilt : i < kv.length:=(List.getElem?_eq_some_iff.1 h1).1;rw [List.getElem?_set_self hilt] at hy;simp at hy; subst hy
         refine ⟨{ e0 with key:=.int k0 n,val:=a.eval x },by simp [Array.getElem?_modify,h2],rfl,hvx,hpl⟩
        ·rw [List.getElem?_set_ne hij] at hy
         obtain ⟨e,q1,q2,q3,q4⟩:=hes j y hy;exact ⟨e,by simp [Array.getElem?_modify,hij,q1],q2,q3,q4⟩
    ·cases h
   ·cases h
  ·cases h
 ·cases h
theorem mapGet_sound {t kt et : TypeId} {kk : IntKind} {z : AV} {ok : Bool} {m k : Operand} {am ak : AOpd} {t1 t2 : Option TypeId} (hT : TmpsOk σ S w T a) (hR : RowsOk P Γ Own σ S w R)
  (ho : o.op = .lookup t m k ok) (ht : P.underlying t = some (.map kt et)) (hkt : P.underlying kt = some (.int kk)) (hz : zeroOf P et = some z)
  (hm : opd P t1 m = some am) (hk : opd P t2 k = some ak) (h : evMapGet (getO T) R kk z ok am ak = some e) : ∃ v w',OpRuns P a o w v w'∧Step P Γ Own σ S w R s e v w':=by
 unfold zeroOf at hz;split at hz
 ·rename_i i hi
  split at hz
  ·rename_i zv hzv
   split at hz
   ·unfold evMapGet at h
    split at h
    ·rename_i id kk' n hgm hgk
     split at h
     ·rename_i hkk
      subst hkk;split at h
      ·rename_i k0 kv hr
       split at h
       ·rename_i hk0
        subst hk0;have hvm:=Yp hT hm hgm;have hek:=(Yp hT hk hgk).int_inv;generalize hem : a.eval m = vm at hvm;cases hvm with
        | imm hv => cases hv
        | mapp id r hσ =>
         obtain ⟨r',es,clock,hloc,hh,hsz,hes⟩:=hR.ok id _ hr;have q:=hloc.symm.trans hσ;simp only [Option.some.injEq,Loc.map.injEq] at q;subst q;have hspec:=findNow_spec (S:=S) (w:=w) (k:=k0) (kd:=k0) (n:=n) es.toList kv 0 (by simpa using hsz) (fun i x hx => by
          obtain ⟨e,h1,h2,h3,h4⟩:=hes i x hx;exact ⟨e,by rw [Array.getElem?_toList]; exact h1,h2,h3,h4⟩)
         have two : ∀ {v : Value} {x : AV} {b : Bool},RelV σ S w v x → RelV σ S w (if ok then .tuple #[v,.bool b] else v) (if ok then .tuple [x,.bool b] else x):=by
          intro v x b hv;cases ok with
          | true =>
           refine .tuple _ _ rfl fun i u c hu hc => ?_
           match i with
           | 0 => simp at hu hc; subst hu hc; exact hv
           | 1 => simp at hu hc; subst hu hc; exact .imm (.bool b)
           | i + 2 => simp at hu
          | false => exact hv
         split at h
         ·rename_i v hget
          simp only [Option.some.injEq] at h; subst h
          obtain ⟨i,e0,h1,h2,h3,h4⟩:=hspec.2 v hget;rw [Array.getElem?_toList] at h2;obtain ⟨e1,g1,g2,g3,g4⟩:=hes i _ h1;rw [h2] at g1; cases g1
          refine fin_pure hR (sem:=Instr.lookup t (a.eval m) (a.eval k) ok) (by simp [execOp,ho]) (u:=if ok then .tuple #[e0.val,.bool true] else e0.val) ?_ (two (.imm g3))
          rw [hem,hek];unfold Instr.lookup;simp only [Sem.run_bind,run_underlying ht,Result.andThen_ok,run_getObj_map' hh,run_checkKey_int hkt,Instr.findKey,run_underlying hkt,h3,Sem.run_pure]
         ·rename_i hget
          simp only [Option.some.injEq] at h; subst h
          obtain ⟨h1,h2⟩:=hspec.1 hget;refine fin_pure hR (sem:=Instr.lookup t (a.eval m) (a.eval k) ok) (by simp [execOp,ho]) (u:=if ok then .tuple #[zv,.bool false] else zv) ?_ (two (.imm (ofVal_rel hz)))
          rw [hem,hek];unfold Instr.lookup;simp only [Sem.run_bind,run_underlying ht,Result.andThen_ok,run_getObj_map' hh,run_checkKey_int hkt,Instr.findKey,run_underlying hkt,h1,Sem.run_pure,zeroValue,typeInfo,run_program,hi,hzv]
       ·cases h
      ·cases h
     ·cases h
    ·rename_i k0 keys vals kk' n hgm hgk
     split at h
     ·rename_i hkk
      obtain ⟨hkk,hk0⟩:=hkk;subst hkk;subst hk0;have hvm:=Yp hT hm hgm;have hek:=(Yp hT hk hgk).int_inv;generalize hem : a.eval m = vm at hvm;cases hvm with
      | imm hv =>
       cases hv with
       | mapI r _ _ _ es clock hb hh hsz hes =>
        have hspec:=findNow_spec (S:=S) (w:=w) (k:=k0) (kd:=k0) (n:=n) es.toList (keys.zip vals) 0 (by simpa using hsz) (fun i x hx => by
         obtain ⟨h1,e,h2,h3,h4⟩:=hes i x hx;exact ⟨e,by rw [Array.getElem?_toList]; exact h2,h3,by rw [h4]; exact mp_rel h1,h1⟩)
        have two : ∀ {v : Value} {x : AV} {b : Bool},RelV σ S w v x → RelV σ S w (if ok then .tuple #[v,.bool b] else v) (if ok then .tuple [x,.bool b] else x):=by
         intro v x b hv;cases ok with
         | true =>
          refine .tuple _ _ rfl fun i u c hu hc => ?_
          match i with
          | 0 => simp at hu hc; subst hu hc; exact hv
          | 1 => simp at hu hc; subst hu hc; exact .imm (.bool b)
          | i + 2 => simp at hu
         | false => exact hv
        split at h
        ·rename_i v hget
         simp only [Option.some.injEq] at h; subst h
         obtain ⟨i,e0,h1,h2,h3,h4⟩:=hspec.2 v hget;rw [Array.getElem?_toList] at h2;obtain ⟨p1,e1,g1,g2,g3⟩:=hes i _ h1;rw [h2] at g1; cases g1
         refine fin_pure hR (sem:=Instr.lookup t (a.eval m) (a.eval k) ok) (by simp [execOp,ho]) (u:=if ok then .tuple #[e0.val,.bool true] else e0.val) ?_ (two (.imm (by rw [g3]; exact mp_rel p1)))
         rw [hem,hek];unfold Instr.lookup;simp only [Sem.run_bind,run_underlying ht,Result.andThen_ok,run_getObj_map' hh,run_checkKey_int hkt,Instr.findKey,run_underlying hkt,h3,Sem.run_pure]
        ·rename_i hget
         simp only [Option.some.injEq] at h; subst h
         obtain ⟨h1,h2⟩:=hspec.1 hget;refine fin_pure hR (sem:=Instr.lookup t (a.eval m) (a.eval k) ok) (by simp [execOp,ho]) (u:=if ok then .tuple #[zv,.bool false] else zv) ?_ (two (.imm (ofVal_rel hz)))
         rw [hem,hek];unfold Instr.lookup;simp only [Sem.run_bind,run_underlying ht,Result.andThen_ok,run_getObj_map' hh,run_checkKey_int hkt,Instr.findKey,run_underlying hkt,h1,Sem.run_pure,zeroValue,typeInfo,run_program,hi,hzv]
     ·cases h
    ·rename_i nv kk' n hgm hgk
     split at h
     ·rename_i hkk
      obtain ⟨hkk,hnv⟩:=hkk;subst hkk;have hnv : nv = .map none:=by
       unfold nilMapV at hnv;split at hnv
       ·rfl
       ·cases hnv
      subst hnv;simp only [Option.some.injEq] at h; subst h
      have hvm:=Yp hT hm hgm;have hek:=(Yp hT hk hgk).int_inv;have hem : a.eval m = .map none:=by
       generalize a.eval m = vm at hvm;cases hvm with
       | imm hv => cases hv with | const _ => rfl
      have two : ∀ {v : Value} {x : AV} {b : Bool},RelV σ S w v x → RelV σ S w (if ok then .tuple #[v,.bool b] else v) (if ok then .tuple [x,.bool b] else x):=by
       intro v x b hv;cases ok with
       | true =>
        refine .tuple _ _ rfl fun i u c hu hc => ?_
        match i with
        | 0 => simp at hu hc; subst hu hc; exact hv
        | 1 => simp at hu hc; subst hu hc; exact .imm (.bool b)
        | i + 2 => simp at hu
       | false => exact hv
      refine fin_pure hR (sem:=Instr.lookup t (a.eval m) (a.eval k) ok) (by simp [execOp,ho]) (u:=if ok then .tuple #[zv,.bool false] else zv) ?_ (two (.imm (ofVal_rel hz)))
      rw [hem,hek];unfold Instr.lookup;simp only [Sem.run_bind,run_underlying ht,Result.andThen_ok,run_checkKey_int hkt,Sem.run_pure,Instr.findKey,run_underlying hkt,Instr.findNow,zeroValue,typeInfo,run_program,hi,hzv]
     ·cases h
    ·cases h
   ·cases hz
  ·cases hz
 ·cases hz
theorem kvDel_spec {n : Int} {k kd : IntKind} : ∀ (es : List MapEntry) (kv : List (Int × AV)) (j : Nat),es.length = kv.length → (∀ (i : Nat) x,kv[i]? = some x → ∃ e,es[i]? = some e∧EntryOk S w k e x) →
  (Instr.findNow (.int kd) (.int k n) es j = some none∧kvDel n kv = kv) ∨ (∃ i e,i < kv.length∧Instr.findNow (.int kd) (.int k n) es j = some (some (j + i,e))∧kvDel n kv = kv.eraseIdx i)
 | [],[],j,_,_ => .inl (by simp [Instr.findNow,kvDel])
 | [],_ :: _,_,hl,_ => by simp at hl
 | _ :: _,[],_,hl,_ => by simp at hl
 | m :: es,(j',v') :: kv,j,hl,hr => by
  obtain ⟨m',hm,hk,hrel,hpl⟩:=hr 0 _ rfl;simp at hm; subst hm
  have ih:=kvDel_spec (k:=k) (kd:=kd) (n:=n) es kv (j + 1) (by simpa using hl) (fun i x hx => hr (i + 1) x (by simpa using hx))
  have hsame : Instr.sameNow (.int kd) (.int k n) m.key = some (n == j'):=by rw [hk]; simp [Instr.sameNow]
  by_cases hj : j' = n
  ·subst hj
   exact .inr ⟨0,m.val,by simp,by simp [Instr.findNow,hsame],by simp [kvDel]⟩
  ·have hne : (n == j') = false:=by simpa using Ne.symm hj
   rw [hne] at hsame;rcases ih with ⟨h1,h2⟩ | ⟨i,e,h1,h2,h3⟩
   ·exact .inl ⟨by simp only [Instr.findNow,hsame]; exact h1,by simp only [kvDel,hj,if_false,h2]⟩
   ·exact .inr ⟨i + 1,e,by simpa using h1,by simp only [Instr.findNow,hsame,h2]; congr 3; omega,by simp only [kvDel,hj,if_false,h3,List.eraseIdx_cons_succ]⟩
theorem mapLen_sound {t kt et : TypeId} {t1 : Option TypeId} {x : Operand} {ax : AOpd} (hT : TmpsOk σ S w T a) (hR : RowsOk P Γ Own σ S w R)
  (ho : o.op = .call ⟨.builtin .len,#[x],#[t]⟩) (ht : P.underlying t = some (.map kt et)) (hx : opd P t1 x = some ax) (h : evMapLen (getO T) R ax = some e) :
  ∃ v w',OpRuns P a o w v w'∧Step P Γ Own σ S w R s e v w':=by
 unfold evMapLen at h;split at h
 ·rename_i id hgm
  split at h
  ·rename_i k0 kv hr
   simp only [Option.some.injEq] at h; subst h
   have hvm:=Yp hT hx hgm;generalize hem : a.eval x = vm at hvm;cases hvm with
   | imm hv => cases hv
   | mapp id r hσ =>
    obtain ⟨r',es,clock,hloc,hh,hsz,hes⟩:=hR.ok id _ hr;have q:=hloc.symm.trans hσ;simp only [Option.some.injEq,Loc.map.injEq] at q;subst q;refine ⟨.int .i64 kv.length,w,.inl ?_,Step.read hR (.imm (.int _ _))⟩;simp only [execOp,ho,resolve,invoke,builtin,pure_bind,Sem.run_bind,List.map_toArray,List.map_cons,List.map_nil,hem];unfold Builtin.len_;simp [run_underlying ht,goInt,run_getObj_map' hh,hsz]
  ·cases h
 ·rename_i k0 keys vals hgm
  simp only [Option.some.injEq] at h; subst h
  have hvm:=Yp hT hx hgm;generalize hem : a.eval x = vm at hvm;cases hvm with
  | imm hv =>
   cases hv with
   | mapI r _ _ _ es clock hb hh hsz hes =>
    refine ⟨.int .i64 (keys.zip vals).length,w,.inl ?_,Step.pure hR (.imm (.int _ _))⟩;simp only [execOp,ho,resolve,invoke,builtin,pure_bind,Sem.run_bind,List.map_toArray,List.map_cons,List.map_nil,hem];unfold Builtin.len_;simp [run_underlying ht,goInt,run_getObj_map' hh,hsz]
 ·cases h
theorem mapDel_sound {t kt et : TypeId} {u : TypeId} {kk : IntKind} {m k : Operand} {am ak : AOpd} {t1 t2 : Option TypeId} (hT : TmpsOk σ S w T a) (hR : RowsOk P Γ Own σ S w R)
  (ho : o.op = .call ⟨.builtin .delete,#[m,k],#[t,u]⟩) (ht : P.underlying t = some (.map kt et)) (hkt : P.underlying kt = some (.int kk))
  (hm : opd P t1 m = some am) (hk : opd P t2 k = some ak) (h : evMapDel (getO T) R kk am ak = some e) : ∃ v w',OpRuns P a o w v w'∧Step P Γ Own σ S w R s e v w':=by
 unfold evMapDel at h;split at h
 ·rename_i id kk' n hgm hgk
  split at h
  ·rename_i hkk
   subst hkk;split at h
   ·rename_i k0 kv hr
    split at h
    ·rename_i hk0
     subst hk0;simp only [Option.some.injEq] at h; subst h
     have hvm:=Yp hT hm hgm;have hek:=(Yp hT hk hgk).int_inv;generalize hem : a.eval m = vm at hvm;cases hvm with
     | imm hv => cases hv
     | mapp id r hσ =>
      obtain ⟨r',es,clock,hloc,hh,hsz,hes⟩:=hR.ok id _ hr;have q:=hloc.symm.trans hσ;simp only [Option.some.injEq,Loc.map.injEq] at q;subst q;have hund : ∀ {σ' : Ids} {S' : Nat → Prop} {w' : World},RelV σ' S' w' (.tuple #[]) (.tuple []):=.tuple #[] [] rfl (by simp)
      have hrlt : r' < w.heap.size:=(Array.getElem?_eq_some_iff.1 hh).1;have hfin : ∀ (es' : Array MapEntry),(Builtin.delete_ #[t,u] o.type #[.map (some r'),.int k0 n]).run P w = .ok (.tuple #[]) { w with heap:=w.heap.setIfInBounds r' (.map es' clock) } →
        es'.size = (kvDel n kv).length → (∀ (i : Nat) y,(kvDel n kv)[i]? = some y → ∃ e,es'[i]? = some e∧EntryOk S w k0 e y) →
        ∃ v' w',OpRuns P a o w v' w'∧Step P Γ Own σ S w R s ⟨.tuple [],[(id,some (.mp k0 (kvDel n kv)))],[id]⟩ v' w':=by
       intro es' hrun hl hent;refine ⟨.tuple #[],{ w with heap:=w.heap.setIfInBounds r' (.map es' clock) },.inl ?_,?_⟩
       ·simp only [execOp,ho,resolve,invoke,builtin,pure_bind,Sem.run_bind,List.map_toArray,List.map_cons,List.map_nil,hem,hek,hrun,Result.andThen_ok,Sem.run_pure]
       ·obtain ⟨q1,q2⟩:=hR.turn (w':={ w with heap:=w.heap.setIfInBounds r' (.map es' clock) }) (row:=.mp k0 (kvDel n kv)) hr (has_map hloc)
         (fun b hb => Array.getElem?_setIfInBounds_ne (Ne.symm hb)) ⟨rfl,rfl,rfl,by simp⟩ (fun hkeep =>
          ⟨r',es',clock,hloc,by simp [hrlt],hl,fun i y hy => by
           obtain ⟨e,h1,h2,h3,h4⟩:=hent i y hy;exact ⟨e,h1,h2,h3.mono (fun _ h => h) hkeep,h4⟩⟩)
        exact ⟨σ,S,hund,q1,q2,fun _ _ => rfl⟩
      have hspec:=kvDel_spec (S:=S) (w:=w) (k:=k0) (kd:=k0) (n:=n) es.toList kv 0 (by simpa using hsz) (fun i x hx => by
       obtain ⟨e,h1,h2,h3,h4⟩:=hes i x hx;exact ⟨e,by rw [Array.getElem?_toList]; exact h1,h2,h3,h4⟩)
      rcases hspec with ⟨h1,h2⟩ | ⟨i,e,h0,h1,h2⟩
      ·refine hfin es ?_ (by rw [h2]; exact hsz) (fun i y hy => by rw [h2] at hy; exact hes i y hy)
       unfold Builtin.delete_;simp only [List.getElem?_toArray,List.getElem?_cons_zero,List.getElem?_cons_succ,Sem.run_bind,run_underlying ht,Result.andThen_ok,run_getObj_map' hh,run_checkKey_int hkt,Instr.findKey,run_underlying hkt,h1,Sem.run_pure,run_setObj_map' hh,pure_bind]
      ·simp only [Nat.zero_add] at h1
       have hlt : i < es.size:=by omega
       refine hfin (es.eraseIdxIfInBounds i) ?_ ?_ (fun j y hy => ?_)
       ·unfold Builtin.delete_
        simp only [List.getElem?_toArray,List.getElem?_cons_zero,List.getElem?_cons_succ,Sem.run_bind,run_underlying ht,Result.andThen_ok,run_getObj_map' hh,run_checkKey_int hkt,Instr.findKey,run_underlying hkt,h1,Sem.run_pure,run_setObj_map' hh,pure_bind]
       ·rw [h2,List.length_eraseIdx]
        simp [Array.eraseIdxIfInBounds,hlt,h0,hsz]
       ·rw [h2,List.getElem?_eraseIdx] at hy
        have hget : ∀ j : Nat,(es.eraseIdxIfInBounds i)[j]? = if j < i then es[j]? else es[j + 1]?:=fun j=>by
         simp [Array.eraseIdxIfInBounds,hlt,Array.getElem?_eraseIdx]
        rw [hget];split at hy
        ·rename_i hji
         rw [if_pos hji]; exact hes j y hy
        ·rename_i hji
         rw [if_neg hji]; exact hes (j + 1) y hy
    ·cases h
   ·cases h
  ·cases h
 ·cases h
theorem eqCells_int {ks : List Bool} {xs ys : List AV} {q : Bool} (h : eqCells (true :: ks) xs ys = some q) :
  ∃ k a b r r' q',xs = .int k a :: r∧ys = .int k b :: r'∧eqCells ks r r' = some q'∧q = (a == b && q'):=by
 unfold eqCells at h;split at h
 ·rename_i heq; cases heq
 ·rename_i heq
  simp at heq; subst heq
  split at h
  ·cases h
  ·rename_i hk
   have hk':=Decidable.of_not_not hk;subst hk';split at h
   ·rename_i q' hq
    simp at h; subst h
    exact ⟨_,_,_,_,_,q',rfl,rfl,hq,rfl⟩
   ·cases h
 ·rename_i heq; simp at heq
 ·cases h
theorem eqCells_bool {ks : List Bool} {xs ys : List AV} {q : Bool} (h : eqCells (false :: ks) xs ys = some q) :
  ∃ a b r r' q',xs = .bool a :: r∧ys = .bool b :: r'∧eqCells ks r r' = some q'∧q = (a == b && q'):=by
 unfold eqCells at h;split at h
 ·rename_i heq; cases heq
 ·rename_i heq; simp at heq
 ·rename_i heq
  simp at heq; subst heq
  split at h
  ·rename_i q' hq
   simp at h; subst h
   exact ⟨_,_,_,_,q',rfl,rfl,hq,rfl⟩
  ·cases h
 ·cases h
theorem eqCells_nil {xs ys : List AV} {q : Bool} (h : eqCells [] xs ys = some q) : xs = []∧ys = []∧q = true:=by
 unfold eqCells at h;split at h
 ·simp at h; exact ⟨rfl,rfl,h⟩
 ·rename_i heq; cases heq
 ·rename_i heq; cases heq
 ·cases h
theorem eqCells_len : ∀ {ks : List Bool} {xs ys : List AV} {q : Bool},eqCells ks xs ys = some q → xs.length = ks.length∧ys.length = ks.length
 | [],xs,ys,q,h => by obtain ⟨rfl,rfl,_⟩:=eqCells_nil h; simp
 | true :: ks,xs,ys,q,h => by
  obtain ⟨k,a,b,r,r',q',rfl,rfl,h1,_⟩:=eqCells_int h;have:=eqCells_len h1;simp [this.1,this.2]
 | false :: ks,xs,ys,q,h => by
  obtain ⟨a,b,r,r',q',rfl,rfl,h1,_⟩:=eqCells_bool h;have:=eqCells_len h1;simp [this.1,this.2]
theorem eqCells_append : ∀ {s1 s2 : List Bool} {xs ys : List AV} {q : Bool},eqCells (s1 ++ s2) xs ys = some q →
  ∃ q1 q2,eqCells s1 (xs.take s1.length) (ys.take s1.length) = some q1∧eqCells s2 (xs.drop s1.length) (ys.drop s1.length) = some q2∧q = (q1 && q2)
 | [],s2,xs,ys,q,h => ⟨true,q,by simp [eqCells],by simpa using h,by simp⟩
 | true :: s1,s2,xs,ys,q,h => by
  obtain ⟨k,a,b,r,r',q',rfl,rfl,h1,rfl⟩:=eqCells_int h;obtain ⟨q1,q2,g1,g2,rfl⟩:=eqCells_append h1;exact ⟨a == b && q1,q2,by simp [eqCells,g1],by simpa using g2,by simp [Bool.and_assoc]⟩
 | false :: s1,s2,xs,ys,q,h => by
  obtain ⟨a,b,r,r',q',rfl,rfl,h1,rfl⟩:=eqCells_bool h;obtain ⟨q1,q2,g1,g2,rfl⟩:=eqCells_append h1;exact ⟨a == b && q1,q2,by simp [eqCells,g1],by simpa using g2,by simp [Bool.and_assoc]⟩
def FormOk (P : Program) (t : TypeId) (x : AV) : Prop:=match agOf P t with
 | some true => ∃ cs,x = .agg cs
 | _ => x.cells = [x]
theorem eqKinds_ag {d : Nat} {t : TypeId} {ks : List Bool} (h : eqKinds P d t = some ks) : ∃ ag,agOf P t = some ag∧(ag = false → ks.length = 1):=by
 cases d with
 | zero => simp [eqKinds] at h
 | succ d =>
  unfold eqKinds at h;split at h
  ·rename_i hu; simp at h; subst h; exact ⟨false,by simp [agOf,hu,isAggD],by simp⟩
  ·rename_i hu; simp at h; subst h; exact ⟨false,by simp [agOf,hu,isAggD],by simp⟩
  ·rename_i hu; exact ⟨true,by simp [agOf,hu,isAggD],by simp⟩
  ·rename_i hu; exact ⟨true,by simp [agOf,hu,isAggD],by simp⟩
  ·cases h
theorem part_form {f : TypeId} {ag : Bool} {k1 : List Bool} {n : Nat} {q1 : Bool} (hagf : agOf P f = some ag) (h1 : ag = false → k1.length = 1) (zs zs' : List AV) (hle : n + k1.length≤zs.length)
  (hqq : eqCells k1 ((zs.drop n).take k1.length) zs' = some q1 ∨ eqCells k1 zs' ((zs.drop n).take k1.length) = some q1) :
  ∃ v,Abs.part ag n k1.length zs = some v∧v.cells = (zs.drop n).take k1.length∧FormOk P f v:=by
 unfold Abs.part;rw [if_pos hle];cases ag with
 | true => exact ⟨.agg ((zs.drop n).take k1.length),by simp,rfl,by simp [FormOk,hagf]⟩
 | false =>
  have hone:=h1 rfl;have hlt : n < zs.length:=by omega
  have htk : (zs.drop n).take k1.length = [zs[n]]:=by
   rw [hone,List.drop_eq_getElem_cons hlt]; rfl
  rw [htk] at hqq;have hcell : zs[n].cells = [zs[n]]:=by
   match k1,hone with
   | [b],_ =>
    cases b with
    | true =>
     rcases hqq with hqq | hqq
     ·obtain ⟨k,a,b,r,r',q',e1,_⟩:=eqCells_int hqq
      simp only [List.cons.injEq] at e1; rw [e1.1]; rfl
     ·obtain ⟨k,a,b,r,r',q',_,e1,_⟩:=eqCells_int hqq
      simp only [List.cons.injEq] at e1; rw [e1.1]; rfl
    | false =>
     rcases hqq with hqq | hqq
     ·obtain ⟨a,b,r,r',q',e1,_⟩:=eqCells_bool hqq
      simp only [List.cons.injEq] at e1; rw [e1.1]; rfl
     ·obtain ⟨a,b,r,r',q',_,e1,_⟩:=eqCells_bool hqq
      simp only [List.cons.injEq] at e1; rw [e1.1]; rfl
  exact ⟨zs[n],by simp [hlt],by rw [htk,hcell],by simp only [FormOk,hagf]; exact hcell⟩
theorem eq_run : ∀ (d : Nat) (t : TypeId) (ks : List Bool),eqKinds P d t = some ks → ∀ (D : Nat),d≤D → ∀ (ax ay : AV) (vx vy : Value) (q : Bool),RelV σ S w vx ax → RelV σ S w vy ay →
  FormOk P t ax → FormOk P t ay → eqCells ks ax.cells ay.cells = some q → (Op.equalIn D t vx vy).run P w = .ok q w
 | 0,t,ks,h,_,_,_,_,_,_,_,_,_,_,_,_ => by simp [eqKinds] at h
 | d + 1,t,ks,h,0,hD,_,_,_,_,_,_,_,_,_,_ => by omega
 | d + 1,t,ks,h,D + 1,hD,ax,ay,vx,vy,q,hx,hy,fx,fy,hq => by
  unfold eqKinds at h;split at h
  ·rename_i kd hu
   simp at h; subst h
   have hag : agOf P t = some false:=by simp [agOf,hu,isAggD]
   simp only [FormOk,hag] at fx fy;rw [fx,fy] at hq;obtain ⟨k,a,b,r,r',q',h1,h2,h3,rfl⟩:=eqCells_int hq;simp only [List.cons.injEq] at h1 h2;obtain ⟨rfl,rfl⟩:=h1;obtain ⟨rfl,rfl⟩:=h2;obtain ⟨_,_,rfl⟩:=eqCells_nil h3;rw [hx.int_inv,hy.int_inv,run_equalIn_int w D t k kd a b hu];simp
  ·rename_i hu
   simp at h; subst h
   have hag : agOf P t = some false:=by simp [agOf,hu,isAggD]
   simp only [FormOk,hag] at fx fy;rw [fx,fy] at hq;obtain ⟨a,b,r,r',q',h1,h2,h3,rfl⟩:=eqCells_bool hq;simp only [List.cons.injEq] at h1 h2;obtain ⟨rfl,rfl⟩:=h1;obtain ⟨rfl,rfl⟩:=h2;obtain ⟨_,_,rfl⟩:=eqCells_nil h3;rw [hx.bool_inv,hy.bool_inv,run_equalIn_bool' w D t a b hu];simp
  ·rename_i fields hu
   split at h
   ·cases h
   ·rename_i hst
    have hst' : P.stoodInHeld t = false:=by simpa using hst
    have hag : agOf P t = some true:=by simp [agOf,hu,isAggD]
    simp only [FormOk,hag] at fx fy;obtain ⟨xs,rfl⟩:=fx;obtain ⟨ys,rfl⟩:=fy;have agg : ∀ {v : Value} {cs : List AV},RelV σ S w v (.agg cs) → ∃ vs,v = .agg vs∧vs.size = cs.length∧∀ (i : Nat) v c,vs[i]? = some v → cs[i]? = some c → RelV σ S w v c:=by
     intro v cs hv;cases hv with
     | imm hv => cases hv with | agg vs _ hl hr => exact ⟨vs,rfl,hl,fun i v c h1 h2 => .imm (hr i v c h1 h2)⟩
     | agg vs _ hl hr => exact ⟨vs,rfl,hl,hr⟩
    obtain ⟨us,rfl,lu,ru⟩:=agg hx;obtain ⟨vs,rfl,lv,rv⟩:=agg hy;have hfo : P.fieldsOf t = fields:=by simp [Program.fieldsOf,hu]
    rw [run_equalIn_struct w D t us vs (by rw [hfo]; exact hu) hst',hfo]
    simp only [AV.cells] at hq;have key : ∀ (fs : List Field) (n : Nat) (ks : List Bool) (q : Bool),eqKindsL P (eqKinds P d) n fs = some ks → n + ks.length≤xs.length → n + ks.length≤ys.length → eqCells ks (xs.drop n) (ys.drop n) = some q →
      (Op.eqFields D us vs fs).run P w = .ok q w:=by
     intro fs;induction fs with
     | nil =>
      intro n ks q hk _ _ hq;simp [eqKindsL] at hk; subst hk
      obtain ⟨_,_,rfl⟩:=eqCells_nil hq;simp [Op.eqFields]
     | cons f fs ih =>
      intro n ks q hk hlx hly hq;simp only [eqKindsL] at hk;split at hk
      ·cases hk
      ·rename_i hno
       have hname : f.name ≠ "_" := fun h => hno (.inl h)
       have hoff : f.offset = n:=Decidable.of_not_not fun h=>hno (.inr h)
       split at hk
       ·rename_i k1 hk1
        split at hk
        ·rename_i hsz
         split at hk
         ·rename_i rs hrs
          simp at hk; subst hk
          obtain ⟨q1,q2,g1,g2,rfl⟩:=eqCells_append hq;obtain ⟨ag,hagf,h1⟩:=eqKinds_ag hk1;simp only [List.length_append] at hlx hly;obtain ⟨px,hpx,hpxc,hpxf⟩:=part_form (f:=f.type) hagf h1 xs _ (by omega) (.inl g1)
          obtain ⟨py,hpy,hpyc,hpyf⟩:=part_form (f:=f.type) hagf h1 ys _ (by omega) (.inr g1)
          obtain ⟨ux,rx,relx⟩:=run_part (P:=P) hsz hagf h1 hpx lu ru;obtain ⟨uy,ry,rely⟩:=run_part (P:=P) hsz hagf h1 hpy lv rv;have ih1:=eq_run d f.type k1 hk1 D (by omega) px py ux uy q1 relx rely hpxf hpyf (by rw [hpxc,hpyc]; exact g1)
          have ih2:=ih (n + k1.length) rs q2 hrs (by omega) (by omega) (by simpa [List.drop_drop] using g2)
          simp only [Op.eqFields,hname,ne_eq,not_false_eq_true,if_true,Sem.run_bind,hoff,rx,ry,Result.andThen_ok,ih1];cases q1 with
          | true => simpa using ih2
          | false => simp
         ·cases hk
        ·cases hk
       ·cases hk
    have hlen:=eqCells_len hq;exact key fields.toList 0 ks q h (by omega) (by omega) (by simpa using hq)
  ·rename_i n e hu
   split at h
   ·rename_i k1 hk1
    split at h
    ·rename_i hsz
     simp only [Option.some.injEq] at h; subst h
     have hag : agOf P t = some true:=by simp [agOf,hu,isAggD]
     simp only [FormOk,hag] at fx fy;obtain ⟨xs,rfl⟩:=fx;obtain ⟨ys,rfl⟩:=fy;have agg : ∀ {v : Value} {cs : List AV},RelV σ S w v (.agg cs) → ∃ vs,v = .agg vs∧vs.size = cs.length∧∀ (i : Nat) v c,vs[i]? = some v → cs[i]? = some c → RelV σ S w v c:=by
      intro v cs hv;cases hv with
      | imm hv => cases hv with | agg vs _ hl hr => exact ⟨vs,rfl,hl,fun i v c h1 h2 => .imm (hr i v c h1 h2)⟩
      | agg vs _ hl hr => exact ⟨vs,rfl,hl,hr⟩
     obtain ⟨us,rfl,lu,ru⟩:=agg hx;obtain ⟨vs,rfl,lv,rv⟩:=agg hy;obtain ⟨i,hi,hisz⟩:=Option.map_eq_some_iff.1 hsz;have hcell : P.cellsOf e = k1.length:=by simp [Program.cellsOf,hi,hisz]
     obtain ⟨ag,hage,h1⟩:=eqKinds_ag hk1;rw [run_equalIn_array w D us vs hu hi,hcell];simp only [AV.cells] at hq;have key : ∀ (m j : Nat) (q : Bool),(j + m) * k1.length≤xs.length → (j + m) * k1.length≤ys.length → eqCells (List.replicate m k1).flatten (xs.drop (j * k1.length)) (ys.drop (j * k1.length)) = some q →
       (Op.eqItems D e k1.length us vs (List.range' j m)).run P w = .ok q w:=by
      intro m;induction m with
      | zero =>
       intro j q _ _ hq;obtain ⟨_,_,rfl⟩:=eqCells_nil hq;simp [Op.eqItems]
      | succ m ih =>
       intro j q hlx hly hq;rw [List.replicate_succ,List.flatten_cons] at hq;obtain ⟨q1,q2,g1,g2,rfl⟩:=eqCells_append hq;have hmul : (j + (m + 1)) * k1.length = j * k1.length + k1.length + m * k1.length:=by rw [Nat.add_mul,Nat.succ_mul]; omega
       obtain ⟨px,hpx,hpxc,hpxf⟩:=part_form (f:=e) hage h1 xs _ (by omega) (.inl g1)
       obtain ⟨py,hpy,hpyc,hpyf⟩:=part_form (f:=e) hage h1 ys _ (by omega) (.inr g1)
       obtain ⟨ux,rx,relx⟩:=run_part (P:=P) hsz hage h1 hpx lu ru;obtain ⟨uy,ry,rely⟩:=run_part (P:=P) hsz hage h1 hpy lv rv;have ih1:=eq_run d e k1 hk1 D (by omega) px py ux uy q1 relx rely hpxf hpyf (by rw [hpxc,hpyc]; exact g1)
       have ih2:=ih (j + 1) q2 (by rw [show j + 1 + m = j + (m + 1) by omega]; exact hlx) (by rw [show j + 1 + m = j + (m + 1) by omega]; exact hly) (by rw [Nat.succ_mul]; simpa [List.drop_drop] using g2)
       simp only [List.range'_succ,Op.eqItems,Sem.run_bind,rx,ry,Result.andThen_ok,ih1];cases q1 with
       | true => simpa using ih2
       | false => simp
     have hlen:=eqCells_len hq;have hfl : (List.replicate n k1).flatten.length = n * k1.length:=by simp
     rw [List.range_eq_range'];exact key n 0 q (by rw [Nat.zero_add]; omega) (by rw [Nat.zero_add]; omega) (by simpa using hq)
    ·cases h
   ·cases h
  ·cases h
theorem eq_sound {op : BinOp} {t ty : TypeId} {x y : Operand} {ax ay : AOpd} {ks : Option (List Bool)} (hT : TmpsOk σ S w T a) (hR : RowsOk P Γ Own σ S w R) (ho : o.op = .binOp op t x y ty)
  (hop : op = .eql ∨ op = .neq) (hks : (ks = none∧P.underlying t = some .bool) ∨ (∃ k fs,ks = some k∧P.underlying t = some (.struct fs)∧eqKinds P 8 t = some k∧P.eqGuardType P.depth t = false))
  (hx : opd P (some t) x = some ax) (hy : opd P (some t) y = some ay) (call : CallF) (h : evalOp call s (getO T) R (.eq (isNeq op) ks ax ay) = some e) :
  ∃ v w',OpRuns P a o w v w'∧Step P Γ Own σ S w R s e v w':=by
 have fin : ∀ {q : Bool},(eqGuard op t x y (a.eval x) (a.eval y)).run P w = .ok () w → (Op.equal t (a.eval x) (a.eval y)).run P w = .ok q w →
   binOp op t (a.eval x) (a.eval y) = (if isNeq op then (do pure (.bool (!(← Op.equal t (a.eval x) (a.eval y))))) else (do pure (.bool (← Op.equal t (a.eval x) (a.eval y))))) →
   ∃ v w',OpRuns P a o w v w'∧Step P Γ Own σ S w R s (.pure (.bool (q != (isNeq op)))) v w':=by
  intro q h1 h2 h3;refine fin_pure hR (sem:=do eqGuard op t x y (a.eval x) (a.eval y); binOp op t (a.eval x) (a.eval y)) (by simp [execOp,ho]) (u:=.bool (q != (isNeq op))) ?_ (.imm (.bool _))
  rw [Sem.run_bind,h1,Result.andThen_ok,h3];rcases hop with rfl | rfl <;> simp [h2,isNeq]
 simp only [evalOp] at h;rcases hks with ⟨rfl,hu⟩ | ⟨k,fs,rfl,hu,hk,hg⟩
 ·split at h
  ·rename_i p q _ hgx hgy
   simp only [Option.some.injEq] at h; subst h
   have h1:=(Yp hT hx hgx).bool_inv;have h2:=(Yp hT hy hgy).bool_inv;rw [h1,h2] at fin;refine fin (q:=p == q) ?_ ?_ ?_
   ·unfold eqGuard
    rcases hop with rfl | rfl <;> simp
   ·exact run_equalIn_bool' w 9999 t p q hu
   ·rcases hop with rfl | rfl <;> simp [binOp,isNeq]
  ·rename_i hn _ _; cases hn
  ·cases h
 ·split at h
  ·rename_i hn _ _; cases hn
  ·rename_i ks' xs ys hke hgx hgy
   simp only [Option.some.injEq] at hke; subst hke
   split at h
   ·rename_i q hq
    simp only [Option.some.injEq] at h; subst h
    have h1:=Yp hT hx hgx;have h2:=Yp hT hy hgy;have hag : agOf P t = some true:=by simp [agOf,hu,isAggD]
    have hrun:=eq_run 8 t k hk 10000 (by omega) (.agg xs) (.agg ys) _ _ q h1 h2 (by simp [FormOk,hag]) (by simp [FormOk,hag]) hq
    have agg : ∀ {v : Value} {cs : List AV},RelV σ S w v (.agg cs) → ∃ vs,v = .agg vs:=by
     intro v cs hv;cases hv with
     | imm hv => cases hv with | agg vs _ hl hr => exact ⟨vs,rfl⟩
     | agg vs _ hl hr => exact ⟨vs,rfl⟩
    obtain ⟨us,e1⟩:=agg h1;obtain ⟨vs,e2⟩:=agg h2;rw [e1,e2] at fin hrun;refine fin ?_ hrun ?_
    ·unfold eqGuard
     rcases hop with rfl | rfl <;> simp [hg]
    ·rcases hop with rfl | rfl <;> simp [binOp,isNeq]
   ·cases h
  ·cases h
end
end Go.Abs
