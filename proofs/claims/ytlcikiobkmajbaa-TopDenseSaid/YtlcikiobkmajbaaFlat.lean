/-
 Arguments read as plain data, type by type: numbers, slices, structs, arrays; for every program.
-/
import Derived.Test.YtlcikiobkmajbaaTop
import Derived.OpenShut
set_option linter.all false
namespace Go.Abs
open Go.RowKit Go.WideShapes
def RelL (S : Nat → Prop) (w : World) (vs : List Value) (as : List AV) : Prop:=vs.length = as.length∧∀ (i : Nat) v c,vs[i]? = some v → as[i]? = some c → RelI S w v c
theorem relL_append {S : Nat → Prop} {w : World} {vs vs' : List Value} {as as' : List AV} (h : RelL S w vs as) (h' : RelL S w vs' as') : RelL S w (vs ++ vs') (as ++ as'):=by
 refine ⟨by simp [h.1,h'.1],fun i v c hi hc => ?_⟩
 by_cases hl : i < vs.length
 ·rw [List.getElem?_append_left hl] at hi
  rw [List.getElem?_append_left (by rw [← h.1]; exact hl)] at hc
  exact h.2 i v c hi hc
 ·rw [List.getElem?_append_right (by omega)] at hi
  rw [List.getElem?_append_right (by rw [← h.1]; omega),← h.1] at hc
  exact h'.2 _ v c hi hc
structure ReadC (P : Program) (t : TypeId) (sz : Nat) (α : Type) (c : α → List AV) : Prop where
 cells : P.cellsOf t = sz
 len : ∀ x,(c x).length = sz
 read : ∀ {H : Type} {enc : TypeId × Value → H} {W : World} {base : Nat} {sp : Nat → Bool} {held : Bool} {n : Nat} {vs : List Value} {y : DataW H × List MemPlace},DataW.trod enc P W base sp held n t vs = some y → ∃ x : α,RelL (fun b=>b < W.heap.size) W vs (c x)
theorem ReadC.map {P : Program} {t : TypeId} {sz : Nat} {α β : Type} {c : α → List AV} {c' : β → List AV} (h : ReadC P t sz α c) (hl : ∀ x,(c' x).length = sz) (f : ∀ x,∃ y,c' y = c x) : ReadC P t sz β c' where
 cells:=h.cells
 len:=hl
 read:=fun h' => by
  obtain ⟨x,hx⟩:=h.read h';obtain ⟨y,hy⟩:=f x;exact ⟨y,hy ▸ hx⟩
theorem ReadC.int {P : Program} {t : TypeId} {k : IntKind} (ht : P.underlying t = some (.int k)) (hc : P.cellsOf t = 1) : ReadC P t 1 Int (fun n=>[.int k n]) where
 cells:=hc
 len:=fun _=>rfl
 read:=fun h=>by
  obtain ⟨m,rfl,_,hw⟩:=DataW.trod_int ht h;refine ⟨m,rfl,fun i v c hi hc => ?_⟩
  match i with
  | 0 => simp at hi hc; subst hi; subst hc; exact .int _ _
  | i + 1 => simp at hi
theorem ReadC.small {P : Program} {t : TypeId} {k : IntKind} (N : Nat) (ht : P.underlying t = some (.int k)) (hc : P.cellsOf t = 1) (hk : ∀ m : Int,(Lit.int k m).wf = true → 0≤m∧m < N) : ReadC P t 1 (Fin N) (fun n=>[.int k (n.1 : Int)]) where
 cells:=hc
 len:=fun _=>rfl
 read:=fun h=>by
  obtain ⟨m,rfl,_,hw⟩:=DataW.trod_int ht h;have hb:=hk m hw;refine ⟨⟨m.toNat,by omega⟩,rfl,fun i v c hi hc => ?_⟩
  match i with
  | 0 =>
   have e : ((m.toNat : Nat) : Int) = m:=by omega
   simp only [List.getElem?_cons_zero,Option.some.injEq] at hi hc; subst hi; subst hc
   rw [e]; exact .int _ _
  | i + 1 => simp at hi
theorem wf_u8 (m : Int) (hw : (Lit.int .u8 m).wf = true) : 0≤m∧m < (256 : Nat):=by
 simp [Lit.wf,IntKind.min,IntKind.max,IntKind.signed,IntKind.bits] at hw;omega
theorem wf_u16 (m : Int) (hw : (Lit.int .u16 m).wf = true) : 0≤m∧m < (65536 : Nat):=by
 simp [Lit.wf,IntKind.min,IntKind.max,IntKind.signed,IntKind.bits] at hw;omega
theorem wf_u32 (m : Int) (hw : (Lit.int .u32 m).wf = true) : 0≤m∧m < (4294967296 : Nat):=by
 simp [Lit.wf,IntKind.min,IntKind.max,IntKind.signed,IntKind.bits] at hw;omega
theorem ReadC.slice {P : Program} {t e : TypeId} {sz : Nat} {α : Type} {en : α → AV} (hE : EncOk P e sz α en) (ht : P.underlying t = some (.slice e)) (hc : P.cellsOf t = 1) : ReadC P t 1 (List α) (fun l=>[.list sz (l.map en)]) where
 cells:=hc
 len:=fun _=>rfl
 read:=fun h=>by
  obtain ⟨u,l,rfl,hr⟩:=slice_read hE ht h;refine ⟨l,rfl,fun i v c hi hc => ?_⟩
  match i with
  | 0 => simp at hi hc; subst hi; subst hc; exact hr
  | i + 1 => simp at hi
theorem ReadC.enc {P : Program} {t : TypeId} {sz : Nat} {α : Type} {c : α → List AV} (h : ReadC P t sz α c) {en : α → AV} (hp : 0 < sz) (he : ∀ x,(en x).cells = c x) (hpl : ∀ x,∀ a ∈ c x,a.plain1 = true) : EncOk P t sz α en where
 len:=fun x=>by rw [he,h.len]
 pl:=fun x a ha => hpl x a (he x ▸ ha)
 cells:=h.cells
 pos:=hp
 read:=fun {H enc W base sp held n vs y} h' => by
  obtain ⟨x,hl,hx⟩:=h.read h';refine ⟨x,List.ext_getElem? fun i=>?_⟩
  rw [List.getElem?_map,he];by_cases hi : i < (c x).length
  ·have h1:=List.getElem?_eq_getElem hi
   have h2:=List.getElem?_eq_getElem (hl ▸ hi : i < _);rw [h1,h2];have hr:=hx i _ _ h2 h1;have hq:=hpl x _ (List.getElem_mem hi);generalize (c x)[i] = a at hr hq;generalize vs[i]'(hl ▸ hi) = v at hr;cases a <;> simp [AV.plain1] at hq
   ·cases hr; rfl
   ·cases hr; rfl
  ·rw [List.getElem?_eq_none (by omega),List.getElem?_eq_none (by omega)]; rfl
structure ReadF (P : Program) (fs : List Field) (o m : Nat) (α : Type) (c : α → List AV) : Prop where
 len : ∀ x,(c x).length = m
 read : ∀ {H : Type} {enc : TypeId × Value → H} {W : World} {base : Nat} {sp : Nat → Bool} {held : Bool} {n : Nat} {vs : List Value},vs.length = o + m → (∀ f ∈ fs,∃ y,DataW.trod enc P W base sp held n f.type ((vs.drop f.offset).take (P.cellsOf f.type)) = some y) →
  ∃ x : α,RelL (fun b=>b < W.heap.size) W (vs.drop o) (c x)
theorem ReadF.nil {P : Program} {o : Nat} : ReadF P [] o 0 Unit (fun _=>[]) where
 len:=fun _=>rfl
 read:=fun hl _ => ⟨(),by rw [List.drop_eq_nil_of_le (by omega)]; exact ⟨rfl,by simp⟩⟩
theorem ReadF.cons {P : Program} {f : Field} {fs : List Field} {o k m : Nat} {α β : Type} {c : α → List AV} {c' : β → List AV} (ho : f.offset = o) (h : ReadC P f.type k α c) (hs : ReadF P fs (o + k) m β c') : ReadF P (f :: fs) o (k + m) (α × β) (fun x=>c x.1 ++ c' x.2) where
 len:=fun x=>by rw [List.length_append,h.len,hs.len]
 read:=fun {H enc W base sp held n vs} hl hf => by
  obtain ⟨y,hy⟩:=hf f (by simp)
  obtain ⟨x,hx⟩:=h.read hy;obtain ⟨x',hx'⟩:=hs.read (n:=n) (enc:=enc) (W:=W) (base:=base) (sp:=sp) (held:=held) (vs:=vs) (by omega) fun g hg => hf g (by simp [hg])
  refine ⟨(x,x'),?_⟩;rw [ho,h.cells] at hx;have e : vs.drop o = (vs.drop o).take k ++ vs.drop (o + k):=by rw [← List.drop_drop,List.take_append_drop]
  rw [e];exact relL_append hx hx'
theorem ReadC.struct {P : Program} {t : TypeId} {fs : Array Field} {m : Nat} {α : Type} {c : α → List AV} (ht : P.underlying t = some (.struct fs)) (hc : P.cellsOf t = m) (h : ReadF P fs.toList 0 m α c) : ReadC P t m α c where
 cells:=hc
 len:=h.len
 read:=fun {H enc W base sp held n vs y} h' => by
  obtain ⟨xs,k,_,_,hl,hlen,hx⟩:=DataW.trod_struct ht h';have:=h.read (n:=k) (enc:=enc) (W:=W) (base:=base) (sp:=sp) (held:=held) (vs:=vs) (by omega) fun f hf => by
   obtain ⟨i,hi,rfl⟩:=List.getElem_of_mem hf;have hi' : i < fs.size:=by simpa using hi
   have:=hx i fs[i] (by simp [hi'])
   rw [List.getElem?_eq_getElem (by omega)] at this
   exact ⟨xs[i],by simpa using this⟩
  simpa using this
theorem readA_all {P : Program} {e : TypeId} {k : Nat} {α : Type} {c : α → List AV} (h : ReadC P e k α c) {H : Type} {enc : TypeId × Value → H} {W : World} {base : Nat} {sp : Nat → Bool} {held : Bool} {m : Nat} :
  ∀ (n : Nat) (vs : List Value),vs.length = n * k → (∀ i,i < n → ∃ y,DataW.trod enc P W base sp held m e ((vs.drop (i * k)).take k) = some y) →
   ∃ l : List α,l.length = n∧RelL (fun b=>b < W.heap.size) W vs (l.flatMap c)
 | 0,vs,hl,_ => ⟨[],rfl,by
  have e : vs = []:=List.eq_nil_of_length_eq_zero (by omega)
  rw [e]; exact ⟨rfl,by simp⟩⟩
 | n + 1,vs,hl,hx => by
  have hl' : vs.length = k + n * k:=by rw [hl,Nat.add_mul]; omega
  obtain ⟨y,hy⟩:=hx 0 (by omega)
  rw [Nat.zero_mul,List.drop_zero] at hy;obtain ⟨x,hr⟩:=h.read hy;obtain ⟨l,hll,hrl⟩:=readA_all h (enc:=enc) (W:=W) (base:=base) (sp:=sp) (held:=held) (m:=m) n (vs.drop k) (by simp; omega) fun i hi => by
   obtain ⟨y,hy⟩:=hx (i + 1) (by omega)
   refine ⟨y,?_⟩;rw [List.drop_drop,← hy]
   congr 3
   rw [Nat.add_mul]; omega
  refine ⟨x :: l,by simp [hll],?_⟩
  have e : vs = vs.take k ++ vs.drop k:=(List.take_append_drop k vs).symm;rw [e,List.flatMap_cons];exact relL_append hr hrl
def Arr (α : Type) (n : Nat):={ l : List α // l.length = n }
theorem ReadC.array {P : Program} {t e : TypeId} {n k m : Nat} {α : Type} {c : α → List AV} (ht : P.underlying t = some (.array n e)) (h : ReadC P e k α c) (hc : P.cellsOf t = m) (hm : m = n * k) : ReadC P t m (Arr α n) (fun x=>x.1.flatMap c) where
 cells:=hc
 len:=fun x=>by
  obtain ⟨l,rfl⟩:=x;subst hm;show (l.flatMap c).length = l.length * k
  rw [List.length_flatMap,show (l.map fun a=>(c a).length) = l.map fun _=>k from List.map_congr_left fun a _ => h.len a]
  clear ht hc;induction l with
  | nil => simp
  | cons a l ih => rw [List.map_cons,List.sum_cons,ih,List.length_cons,Nat.add_mul]; omega
 read:=fun h' => by
  obtain ⟨xs,q,_,_,hl,hlen,hx⟩:=DataW.trod_array ht h';obtain ⟨l,h1,h2⟩:=readA_all h n _ (by rw [hl,hc,hm]) fun i hi => by
   have:=hx i hi;rw [List.getElem?_eq_getElem (by omega),h.cells] at this
   exact ⟨_,this⟩
  exact ⟨⟨l,h1⟩,h2⟩
theorem ReadC.top {P : Program} {t : TypeId} {sz : Nat} {α : Type} {c : α → List AV} (h : ReadC P t sz α c) {W : World} {r : Reach} {b0 : Nat} {v : Value} {H : Type} {enc : TypeId × Value → H} {base : Nat} {sp : Nat → Bool} {held : Bool} {d : DataW H} {p : List MemPlace}
  (ht : (∃ fs,P.underlying t = some (.struct fs)) ∨ (∃ n e,P.underlying t = some (.array n e))) (hv : Value.okWide P W r b0 t v) (hd : DataW.Trod enc P W base sp held t v d p) : ∃ x : α,RelI (fun b=>b < W.heap.size) W v (.agg (c x)):=by
 obtain ⟨n,hn⟩:=hd;obtain ⟨x,hl,hx⟩:=h.read hn;have : ∃ cs,v = .agg cs:=by
  rcases ht with ⟨fs,ht⟩ | ⟨n,e,ht⟩
  ·simp only [Value.okWide,ht] at hv
   obtain ⟨cs,h1,_⟩:=hv;exact ⟨cs,h1⟩
  ·simp only [Value.okWide,ht] at hv
   obtain ⟨cs,h1,_⟩:=hv;exact ⟨cs,h1⟩
 obtain ⟨cs,rfl⟩:=this;refine ⟨x,.agg _ _ (by simpa [Value.cells] using hl) fun i v c hi hc => hx i v c ?_ hc⟩
 simpa [Value.cells] using hi
theorem slice_readC {P : Program} {t e : TypeId} {sz : Nat} {α : Type} {c : α → List AV} {en : α → AV} (hE : ReadC P e sz α c) (hpos : 0 < sz) (hen : ∀ x,(en x).cells = c x) (hs : ∀ x,∀ a ∈ c x,a.scalar = true)
  (ht : P.underlying t = some (.slice e)) {H : Type} {enc : TypeId × Value → H} {W : World} {base : Nat} {sp : Nat → Bool} {held : Bool} {fuel : Nat} {cs : List Value} {x : DataW H × List MemPlace} (h : DataW.trod enc P W base sp held fuel t cs = some x) :
  ∃ (v : Value) (l : List α),cs = [v]∧RelI (fun b=>b < W.heap.size) W v (.list sz (l.map en)):=by
 rcases DataW.trod_slice ht h with ⟨rfl,_⟩ | ⟨a,len,cap,elems,rest,n,_,rfl,_,hb,hlc,_,hlen,hel,_,_⟩
 ·exact ⟨_,[],rfl,.list0 _ _ _⟩
 ·by_cases h0 : len = 0
  ·subst h0; exact ⟨_,[],rfl,.list0 _ _ _⟩
  ·have each : ∀ i : Fin len,∃ (x : α) (vs : List Value),W.cells? base (a.add (i.1 * sz)) sz = some vs∧RelL (fun b=>b < W.heap.size) W vs (c x):=by
    intro i;have h1:=hel i.1 i.2;rw [List.getElem?_eq_getElem (by omega),hE.cells] at h1
    obtain ⟨cs,hc,hy⟩:=Option.bind_eq_some_iff.1 h1;obtain ⟨x,hx⟩:=hE.read hy;exact ⟨x,cs,hc,hx⟩
   have cell : ∀ (i : Fin len) (j : Nat),j < sz → ∃ v,W.cell? ((a.add (i.1 * sz)).add j) = some v:=by
    intro i j hj;obtain ⟨x,vs,hx,hr⟩:=each i;have hl : vs.length = sz:=by rw [hr.1,hE.len]
    exact ⟨_,((World.cells?_some hx).2.2 j hj).trans (List.getElem?_eq_getElem (by omega))⟩
   have hspot : a.spot = none:=by
    obtain ⟨v,h3⟩:=cell ⟨0,by omega⟩ 0 hpos
    have hs : ((a.add (0 * sz)).add 0).spot = a.spot:=by simp [Addr.add]
    unfold World.cell? at h3;rw [hs] at h3;cases hsp : a.spot with
    | none => rfl
    | some _ =>
     rw [hsp] at h3;simp only at h3;split at h3
     ·cases h3
     ·cases h3
   obtain ⟨b,o,spot⟩:=a;simp only at hspot;subst hspot;have hadd : ∀ i j : Nat,(Addr.add (Addr.add ⟨b,o,none⟩ i) j) = ⟨b,o + i + j,none⟩:=by
    intro i j;unfold Addr.add;by_cases h1 : i = 0 <;> by_cases h2 : j = 0 <;> simp [h1,h2]
   let gx:=fun i=>Classical.choose (each i)
   let gv:=fun i=>Classical.choose (Classical.choose_spec (each i))
   have hgx : ∀ i : Fin len,W.cells? base (Addr.add ⟨b,o,none⟩ (i.1 * sz)) sz = some (gv i)∧RelL (fun b=>b < W.heap.size) W (gv i) (c (gx i)):=fun i=>Classical.choose_spec (Classical.choose_spec (each i))
   have hb' : b < W.heap.size:=by
    obtain ⟨v,h3⟩:=cell ⟨0,by omega⟩ 0 hpos
    rw [hadd] at h3;simpa using World.block_lt_of_cell? W _ h3
   have hel' : ∀ e ∈ (List.ofFn gx).map en,Elem sz e:=by
    intro e he;obtain ⟨x,_,rfl⟩:=List.mem_map.1 he;exact ⟨by rw [hen,hE.len],fun a ha => hs x a (by rw [← hen]; exact ha)⟩
   have hlen2 : ((List.ofFn gx).map en).length = len:=by simp
   refine ⟨_,List.ofFn gx,rfl,?_⟩;have hget : ∀ (q r : Nat) (hq : q < len) (hr : r < sz),∃ v y,(en (gx ⟨q,hq⟩)).cells[r]? = some y∧W.cell? ⟨b,o + (q * sz + r),none⟩ = some v∧RelI (fun b=>b < W.heap.size) W v y:=by
    intro q r hq hr;obtain ⟨h1,h2⟩:=hgx ⟨q,hq⟩;have hl : (c (gx ⟨q,hq⟩)).length = sz:=hE.len _;have hl2 : (gv ⟨q,hq⟩).length = sz:=by rw [h2.1,hl]
    have h3:=(World.cells?_some h1).2.2 r hr;rw [hadd] at h3;refine ⟨(gv ⟨q,hq⟩)[r],(c (gx ⟨q,hq⟩))[r],by rw [hen]; exact List.getElem?_eq_getElem (by omega),?_,h2.2 r _ _ (List.getElem?_eq_getElem (by omega)) (List.getElem?_eq_getElem (by omega))⟩
    rw [← Nat.add_assoc,h3];exact List.getElem?_eq_getElem (by omega)
   have key : ∀ i,i < len * sz → ∃ q r,q < len∧r < sz∧i = q * sz + r:=by
    intro i hi;exact ⟨i / sz,i % sz,Nat.div_lt_of_lt_mul (by rw [Nat.mul_comm]; exact hi),Nat.mod_lt _ hpos,by rw [Nat.mul_comm]; exact (Nat.div_add_mod i sz).symm⟩
   have:=RelI.list (S:=fun b=>b < W.heap.size) (w:=W) b o sz cap ((List.ofFn gx).map en) (fun i=>(W.cell? ⟨b,o + i,none⟩).getD (.bool false)) hb' (by omega) hel' (fun i hi => by
    rw [hlen2] at hi;obtain ⟨q,r,hq,hr,rfl⟩:=key i hi;obtain ⟨v,y,_,h2,_⟩:=hget q r hq hr;rw [h2]; rfl) (fun i y hy => by
    have hi : i < len * sz:=by
     have:=(List.getElem?_eq_some_iff.1 hy).1;rw [flat_length hel',hlen2] at this;exact this
    obtain ⟨q,r,hq,hr,rfl⟩:=key i hi;have h1 : ((List.ofFn gx).map en)[q]? = some (en (gx ⟨q,hq⟩)):=by simp [hq]
    rw [flat_get hel' h1 hr] at hy;obtain ⟨v,y',h2,h3,h4⟩:=hget q r hq hr;rw [hy] at h2;obtain rfl:=Option.some.inj h2;rw [h3];exact h4)
   rw [hlen2] at this;exact this
theorem ReadC.sliceC {P : Program} {t e : TypeId} {sz : Nat} {α : Type} {c : α → List AV} {en : α → AV} (hE : ReadC P e sz α c) (hpos : 0 < sz) (hen : ∀ x,(en x).cells = c x) (hs : ∀ x,∀ a ∈ c x,a.scalar = true) (ht : P.underlying t = some (.slice e)) (hc : P.cellsOf t = 1) : ReadC P t 1 (List α) (fun l=>[.list sz (l.map en)]) where
 cells:=hc
 len:=fun _=>rfl
 read:=fun h=>by
  obtain ⟨u,l,rfl,hr⟩:=slice_readC hE hpos hen hs ht h;refine ⟨l,rfl,fun i v c hi hc => ?_⟩
  match i with
  | 0 => simp at hi hc; subst hi; subst hc; exact hr
  | i + 1 => simp at hi
theorem ReadC.topS {P : Program} {t e : TypeId} {α : Type} {a : α → AV} (h : ReadC P t 1 α (fun x=>[a x])) (ht : P.underlying t = some (.slice e)) {W : World} {r : Reach} {b0 : Nat} {v : Value} {H : Type} {enc : TypeId × Value → H} {base : Nat} {sp : Nat → Bool} {held : Bool} {d : DataW H} {p : List MemPlace}
  (hv : Value.okWide P W r b0 t v) (hd : DataW.Trod enc P W base sp held t v d p) : ∃ x : α,RelI (fun b=>b < W.heap.size) W v (a x):=by
 obtain ⟨n,hn⟩:=hd;obtain ⟨x,hl,hx⟩:=h.read hn;have hc : v.cells.toList = [v]:=by
  simp only [Value.okWide,ht] at hv;cases v <;> first | rfl | (simp [Cell.okWide,Cell.ok,ht] at hv)
 rw [hc] at hx;exact ⟨x,hx 0 v (a x) rfl rfl⟩
end Go.Abs
