/-
 From the reading of a statement's arguments to the abstract interpreter's values, and from its answer to the call's: for every program whose functions were compiled.
-/
import Derived.Test.YtlcikiobkmajbaaWalk
import Derived.Test.YtlcikiobkmajbaaLim
import Derived.Carry
import Derived.ChangeArms
import Derived.ChangeSame
import Derived.Lib.SmallJoins
set_option linter.all false
namespace Go.Abs
open Go.RowKit
theorem law_callsX {P : Program} {bor : Nat → List Nat} {F : Nat → Option AFn} (hmix : P.follows .mixedOrders = true) (hF : ∀ f afn,F f = some afn → (∃ fn hh,P.funcs[f]? = some fn∧compFn P bor hh fn = some afn) ∨ ExtOk P f afn)
  {Γ : Gam} {f : Nat} {vs : List Value} {as : List AV} {w : World} (hl : lim F f as = some (.bool true,[])) (hargs : LiftL (ArgR P Γ (fun b=>b < w.heap.size) w) vs as []) (hG : GlobOk (fun b=>b < w.heap.size) w) :
  Calls P f vs.toArray w fun e w' => e = .returned (.bool true)∧Below w.heap.size w w':=by
 obtain ⟨n,hn⟩:=lim_iff.1 hl;obtain ⟨hc,_⟩:=call_ok hmix hF n f as _ hn;refine (hc Γ (fun b=>b < w.heap.size) w vs [] hargs (by simp) (by simp) (fun _ h => h) hG).mono fun e w' hp => ?_
 obtain ⟨v,S',bs1,bs2,rfl,h1,h2,h3,h4,h5,h6,h7,h8⟩:=hp;have hv : v = .bool true:=by
  have h1' : OwnC S' w' v (.bool true) bs1:=h1;unfold OwnC at h1';obtain ⟨_,hr⟩:=h1';cases hr;rfl
 subst hv;exact ⟨rfl,h8.os,h8.tape,h8.output,h8.size,fun k hk => h7 k hk (by simp)⟩
theorem law_callsG {P : Program} {bor : Nat → List Nat} {F : Nat → Option AFn} (hmix : P.follows .mixedOrders = true) (hF : ∀ f afn,F f = some afn → ∃ fn hh,P.funcs[f]? = some fn∧compFn P bor hh fn = some afn)
  {Γ : Gam} {f : Nat} {vs : List Value} {as : List AV} {w : World} (hl : lim F f as = some (.bool true,[])) (hargs : LiftL (ArgR P Γ (fun b=>b < w.heap.size) w) vs as []) (hG : GlobOk (fun b=>b < w.heap.size) w) :
  Calls P f vs.toArray w fun e w' => e = .returned (.bool true)∧Below w.heap.size w w' :=
 law_callsX hmix (fun f afn h => .inl (hF f afn h)) hl hargs hG
theorem law_calls {P : Program} {bor : Nat → List Nat} {F : Nat → Option AFn} (hmix : P.follows .mixedOrders = true) (hF : ∀ f afn,F f = some afn → ∃ fn hh,P.funcs[f]? = some fn∧compFn P bor hh fn = some afn)
  {Γ : Gam} {f : Nat} {vs : List Value} {as : List AV} {w : World} (hl : lim F f as = some (.bool true,[])) (hargs : LiftL (ArgR P Γ (fun b=>b < w.heap.size) w) vs as []) (h0 : globT = []:=by rfl) :
  Calls P f vs.toArray w fun e w' => e = .returned (.bool true)∧Below w.heap.size w w' :=
 law_callsG hmix hF hl hargs fun g cs hg => by rw [h0] at hg; cases hg
theorem law_callsY {P : Program} {bor : Nat → List Nat} {F : Nat → Option AFn} (hmix : P.follows .mixedOrders = true) (hF : ∀ f afn,F f = some afn → (∃ fn hh,P.funcs[f]? = some fn∧compFn P bor hh fn = some afn) ∨ ExtOk P f afn)
  {Γ : Gam} {f : Nat} {vs : List Value} {as : List AV} {w : World} (hl : lim F f as = some (.bool true,[])) (hargs : LiftL (ArgR P Γ (fun b=>b < w.heap.size) w) vs as []) (h0 : globT = []:=by rfl) :
  Calls P f vs.toArray w fun e w' => e = .returned (.bool true)∧Below w.heap.size w w' :=
 law_callsX hmix hF hl hargs fun g cs hg => by rw [h0] at hg; cases hg
def cellV : AV → Value
 | .int k n => .int k n
 | .bool b => .bool b
 | _ => .bool false
structure EncOk (P : Program) (e : TypeId) (sz : Nat) (α : Type) (en : α → AV) : Prop where
 len : ∀ x,(en x).cells.length = sz
 pl : ∀ x,∀ c ∈ (en x).cells,c.plain1 = true
 cells : P.cellsOf e = sz
 pos : 0 < sz
 read : ∀ {H : Type} {enc : TypeId × Value → H} {W : World} {base : Nat} {sp : Nat → Bool} {held : Bool} {n : Nat} {cs : List Value} {y : DataW H × List MemPlace},DataW.trod enc P W base sp held n e cs = some y → ∃ x : α,cs = (en x).cells.map cellV
theorem rel_cellV {S : Nat → Prop} {w : World} {c : AV} (h : c.plain1 = true) : RelI S w (cellV c) c:=by
 cases c <;> simp [AV.plain1] at h
 ·exact .int _ _
 ·exact .bool _
section
variable {P : Program} {e t : TypeId} {sz : Nat} {α : Type} {en : α → AV} {H : Type} {enc : TypeId × Value → H} {W : World} {base : Nat} {sp : Nat → Bool} {held : Bool}
theorem enc_elem (hE : EncOk P e sz α en) (x : α) : Elem sz (en x):=⟨hE.len x,fun c hc => by
 have:=hE.pl x c hc;cases c <;> simp [AV.plain1] at this <;> rfl⟩
theorem slice_read (hE : EncOk P e sz α en) (ht : P.underlying t = some (.slice e)) {fuel : Nat} {cs : List Value} {x : DataW H × List MemPlace} (h : DataW.trod enc P W base sp held fuel t cs = some x) :
  ∃ (v : Value) (l : List α),cs = [v]∧RelI (fun b=>b < W.heap.size) W v (.list sz (l.map en)):=by
 rcases DataW.trod_slice ht h with ⟨rfl,_⟩ | ⟨a,len,cap,elems,rest,n,_,rfl,_,hb,hlc,_,hlen,hel,_,_⟩
 ·exact ⟨_,[],rfl,.list0 _ _ _⟩
 ·by_cases h0 : len = 0
  ·subst h0; exact ⟨_,[],rfl,.list0 _ _ _⟩
  ·have each : ∀ i : Fin len,∃ x : α,W.cells? base (a.add (i.1 * sz)) sz = some ((en x).cells.map cellV):=by
    intro i;have h1:=hel i.1 i.2;rw [List.getElem?_eq_getElem (by omega),hE.cells] at h1
    obtain ⟨cs,hc,hy⟩:=Option.bind_eq_some_iff.1 h1;obtain ⟨x,rfl⟩:=hE.read hy;exact ⟨x,hc⟩
   have cell : ∀ (i : Fin len) (j : Nat),j < sz → ∃ x c,W.cells? base (a.add (i.1 * sz)) sz = some ((en x).cells.map cellV)∧(en x).cells[j]? = some c∧W.cell? ((a.add (i.1 * sz)).add j) = some (cellV c):=by
    intro i j hj;obtain ⟨x,hx⟩:=each i;have hl:=hE.len x;have:=(World.cells?_some hx).2.2 j hj;rw [List.getElem?_map,List.getElem?_eq_getElem (by omega)] at this
    exact ⟨x,_,hx,List.getElem?_eq_getElem (by omega),this⟩
   have hpos:=hE.pos;have hspot : a.spot = none:=by
    obtain ⟨x,c,_,_,h3⟩:=cell ⟨0,by omega⟩ 0 hpos
    simp only [Nat.zero_mul,Addr.add,if_true] at h3;cases hs : a.spot with
    | none => rfl
    | some s =>
     simp only [World.cell?] at h3;split at h3
     ·simp [hs] at h3
     ·cases h3
   obtain ⟨b,o,spot⟩:=a;simp only at hspot;subst hspot;have hadd : ∀ i j : Nat,(Addr.add (Addr.add ⟨b,o,none⟩ i) j) = ⟨b,o + i + j,none⟩:=by
    intro i j;unfold Addr.add;by_cases h1 : i = 0 <;> by_cases h2 : j = 0 <;> simp [h1,h2]
   have g:=fun i=>Classical.choose_spec (each i)
   let gx:=fun i=>Classical.choose (each i)
   have hgx : ∀ i : Fin len,W.cells? base (Addr.add ⟨b,o,none⟩ (i.1 * sz)) sz = some ((en (gx i)).cells.map cellV):=g;have hb' : b < W.heap.size:=by
    obtain ⟨x,c,_,_,h3⟩:=cell ⟨0,by omega⟩ 0 hpos
    rw [hadd] at h3;simpa using World.block_lt_of_cell? W _ h3
   have hel' : ∀ e ∈ (List.ofFn gx).map en,Elem sz e:=by
    intro e he;obtain ⟨x,_,rfl⟩:=List.mem_map.1 he;exact enc_elem hE x
   have hlen2 : ((List.ofFn gx).map en).length = len:=by simp
   refine ⟨_,List.ofFn gx,rfl,?_⟩;have hget : ∀ (q r : Nat) (hq : q < len) (hr : r < sz),∃ c,(en (gx ⟨q,hq⟩)).cells[r]? = some c∧W.cell? ⟨b,o + (q * sz + r),none⟩ = some (cellV c):=by
    intro q r hq hr;have hl:=hE.len (gx ⟨q,hq⟩);have:=(World.cells?_some (hgx ⟨q,hq⟩)).2.2 r hr;rw [hadd,List.getElem?_map,List.getElem?_eq_getElem (by omega)] at this
    exact ⟨_,List.getElem?_eq_getElem (by omega),by rw [← Nat.add_assoc]; exact this⟩
   have key : ∀ i,i < len * sz → ∃ q r,q < len∧r < sz∧i = q * sz + r:=by
    intro i hi;exact ⟨i / sz,i % sz,Nat.div_lt_of_lt_mul (by rw [Nat.mul_comm]; exact hi),Nat.mod_lt _ hpos,by rw [Nat.mul_comm]; exact (Nat.div_add_mod i sz).symm⟩
   have:=RelI.list (S:=fun b=>b < W.heap.size) (w:=W) b o sz cap ((List.ofFn gx).map en) (fun i=>(W.cell? ⟨b,o + i,none⟩).getD (.bool false)) hb' (by omega) hel' (fun i hi => by
    rw [hlen2] at hi;obtain ⟨q,r,hq,hr,rfl⟩:=key i hi;obtain ⟨c,_,h2⟩:=hget q r hq hr;rw [h2]; rfl) (fun i c hc => by
    have hi : i < len * sz:=by
     have:=(List.getElem?_eq_some_iff.1 hc).1;rw [flat_length hel',hlen2] at this;exact this
    obtain ⟨q,r,hq,hr,rfl⟩:=key i hi;have h1 : ((List.ofFn gx).map en)[q]? = some (en (gx ⟨q,hq⟩)):=by simp [hq]
    rw [flat_get hel' h1 hr] at hc;obtain ⟨c',h2,h3⟩:=hget q r hq hr;rw [hc] at h2;obtain rfl:=Option.some.inj h2;rw [h3];exact rel_cellV (hE.pl _ _ (List.mem_of_getElem? hc)))
   rw [hlen2] at this;exact this
theorem enc_int {k : IntKind} (he : P.underlying e = some (.int k)) (hc : P.cellsOf e = 1) : EncOk P e 1 Int (fun n=>.int k n) where
 len:=fun _=>rfl
 pl:=fun x c hc => by simp [AV.cells] at hc; subst hc; rfl
 cells:=hc
 pos:=by omega
 read:=fun h=>by
  obtain ⟨n,rfl,_⟩:=DataW.trod_int he h;exact ⟨n,rfl⟩
end
section
open Go.ChangeShapes Go.WideShapes
variable {H : Type} {enc : TypeId × Value → H} {P : Program}
theorem post_of_below {f : Func} {s : ChangeSpec} {apart fresh handsOn again : Bool} {W W' : World} {args : Array Value} {v : Value} {ds : List (DataW H)} {before : List MemPlace}
  (hW : DataW.Whole enc P f.params.toList s.vars apart W args.toList ds [] before) (hv : s.vars = []) (hb : Below W.heap.size W W')
  (hres : ∀ (b : Nat) (sp : Nat → Bool) (hd : Bool),DataW.TrodAll enc P W' b sp hd f.resultTypes.toList (v.resultList f.resultTypes.size) (s.fn H ds).results [])
  (hargs : ∀ sp : Nat → Bool,(∀ p ∈ before,sp p.block = true) → DataW.TrodAll enc P W' 0 sp true f.params.toList args.toList (s.fn H ds).args before) (hvars : (s.fn H ds).vars = [])
  (hok : ∀ (j : Nat) (t : TypeId) (r : Value),f.resultTypes[j]? = some t → (v.resultList f.resultTypes.size)[j]? = some r → Value.okWide P W' .any 0 t r) :
  s.post enc P f apart fresh handsOn again W args v W':=by
 have hold : ∀ p ∈ before,(fun b=>decide (b < W.heap.size)) p.block = true:=fun p hp => by simpa using hW.lt p hp
 have hvr : ∀ sp : Nat → Bool,DataW.TrodVars enc P W' sp s.vars (s.fn H ds).vars []:=fun sp=>by rw [hv,hvars]; rfl
 refine ⟨ds,[],before,[],before,[],hW,by simpa using hres _ _ _,by simpa using hargs _ hold,by simpa using hvr _,hb.frame _,fun _=>?_⟩
 have hlt:=hW.lt;obtain ⟨_,_,_,_,_,hz,hn⟩:=hW;refine ⟨hok,_,_,([] ++ before) ++ [],⟨[] ++ before,[],trodAll_append (by simpa using hargs _ (fun _ _ => rfl)) (by simpa using hres _ _ _),by simpa using hvr _,rfl,?_,?_⟩,?_⟩
 ·intro b off hp
  simp only [List.nil_append,List.append_nil] at hp;rw [hb.frozen (hlt _ hp)];exact hz b off hp
 ·intro ha
  simpa using hn ha
 ·intro p hp _
  simpa using hp
end
end Go.Abs
