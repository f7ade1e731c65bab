/-
 The abstract interpreter's steps as equations that simp takes in the order of evaluation: nothing behind a step is looked at before the step is done.
-/
import Derived.Test.YtlcikiobkmajbaaWp
import Derived.Attr
set_option linter.all false
namespace Go.Abs
def obind {α β : Type} (o : Option α) (f : α → Option β) : Option β:=match o with
 | some x => f x
 | none => none
theorem obind_congr {α β : Type} {o o' : Option α} {f : α → Option β} (h : o = o') : obind o f = obind o' f:=by rw [h]
attribute [congr] obind_congr
@[go_sem ↓,go_sem] theorem obind_some {α β : Type} {x : α} {f : α → Option β} : obind (some x) f = f x:=rfl
@[go_sem ↓,go_sem] theorem obind_none {α β : Type} {f : α → Option β} : obind none f = none:=rfl
theorem obind_assoc {α β γ : Type} {o : Option α} {f : α → Option β} {g : β → Option γ} : obind (obind o f) g = obind o (fun x=>obind (f x) g):=by cases o <;> rfl
attribute [go_sem ↓] obind_assoc
def grd {β : Type} (c : Prop) [Decidable c] (x : Option β) : Option β:=if c then x else none
theorem grd_congr {β : Type} {c c' : Prop} {i : Decidable c} [Decidable c'] {x : Option β} (h : c = c') : @grd β c i x = grd c' x:=by
 subst h; unfold grd; congr
attribute [congr] grd_congr
@[go_sem ↓,go_sem] theorem grd_true {β : Type} {i : Decidable True} {x : Option β} : @grd β True i x = x:=if_pos trivial
theorem grd_pos {β : Type} {c : Prop} [Decidable c] {x : Option β} (h : c) : grd c x = x:=if_pos h
theorem grd_obind {β γ : Type} {c : Prop} [Decidable c] {x : Option β} {g : β → Option γ} : obind (grd c x) g = grd c (obind x g):=by unfold grd; split <;> rfl
attribute [go_sem ↓] grd_obind
def grdB {β : Type} (c : Bool) (x : Option β) : Option β:=if c then x else none
theorem grdB_congr {β : Type} {c c' : Bool} {x : Option β} (h : c = c') : grdB c x = grdB c' x:=by rw [h]
attribute [congr] grdB_congr
theorem grdB_obind {β γ : Type} {c : Bool} {x : Option β} {g : β → Option γ} : obind (grdB c x) g = grdB c (obind x g):=by unfold grdB; split <;> rfl
attribute [go_sem ↓] grdB_obind
@[go_sem ↓,go_sem] theorem grdB_true {β : Type} {x : Option β} : grdB true x = x:=rfl
def Tt (c : Bool) : Prop:=c = true
theorem Yo {c : Bool} (h : true = c) : Tt c:=h.symm
def grdT {β : Type} (c : Bool) (x : Option β) : Option β:=if c then x else none
theorem grdT_tt {β : Type} {c : Bool} {x : Option β} (h : Tt c) : grdT c x = x:=by rw [show c = true from h]; rfl
theorem grdT_obind {β γ : Type} {c : Bool} {x : Option β} {g : β → Option γ} : obind (grdT c x) g = grdT c (obind x g):=by unfold grdT; split <;> rfl
attribute [go_sem ↓] grdT_obind
section
variable {α β : Type}
@[go_sem] theorem mapO_nil (f : α → Option β) : mapO f [] = some []:=rfl
@[go_sem] theorem mapO_cons (f : α → Option β) (x : α) (r : List α) : mapO f (x :: r) = obind (f x) fun y=>obind (mapO f r) fun ys=>some (y :: ys):=by
 simp only [mapO]; cases f x with
 | none => rfl
 | some y => cases mapO f r <;> rfl
end
variable {R : Nat → Option Row}
@[go_sem] theorem frzL_nil (f : AV → Option (AV × List Nat)) : frzL f [] = some ([],[]):=rfl
@[go_sem] theorem frzL_cons (f : AV → Option (AV × List Nat)) (c : AV) (r : List AV) : frzL f (c :: r) = obind (f c) fun p=>obind (frzL f r) fun q=>some (p.1 :: q.1,p.2 ++ q.2):=by
 simp only [frzL]; cases f c with
 | none => rfl
 | some p => cases frzL f r <;> rfl
def frzSl (id off len : Nat) : Row → Option (AV × List Nat)
 | .arr sz es => grd (off + len≤es.length) (some (.list sz ((es.drop off).take len),[id]))
 | _ => none
def frzPt (f : AV → Option (AV × List Nat)) (id idx off : Nat) : Row → Option (AV × List Nat)
 | .box cs => grd (idx = 0) (obind (frzL f cs) fun p=>some (.iptr (.agg p.1) off,id :: p.2))
 | .arr _ es => obind es[idx]? fun e=>some (.iptr e off,[id])
 | _ => none
def frzMp (id : Nat) : Row → Option (AV × List Nat)
 | .mp k kv => some (.mapI k (kv.map (·.1)) (kv.map (·.2)),[id])
 | _ => none
attribute [go_sem] frzSl.eq_1 frzPt.eq_1 frzPt.eq_2 frzMp.eq_1
@[go_sem] theorem frz_int (d : Nat) (k : IntKind) (n : Int) : frz R (d + 1) (.int k n) = some (.int k n,[]):=rfl
@[go_sem] theorem frz_bool (d : Nat) (b : Bool) : frz R (d + 1) (.bool b) = some (.bool b,[]):=rfl
@[go_sem] theorem frz_any (d : Nat) : frz R (d + 1) .any = some (.any,[]):=rfl
@[go_sem] theorem frz_const (d : Nat) (v : Value) : frz R (d + 1) (.const v) = some (.const v,[]):=rfl
@[go_sem] theorem frz_list (d sz : Nat) (es : List AV) : frz R (d + 1) (.list sz es) = some (.list sz es,[]):=rfl
@[go_sem] theorem frz_mapp (d id : Nat) : frz R (d + 1) (.mapp id) = obind (R id) (frzMp id):=by
 simp only [frz]; cases R id with
 | none => rfl
 | some r => cases r <;> rfl
@[go_sem] theorem frz_iptr (d : Nat) (e : AV) (o : Nat) : frz R (d + 1) (.iptr e o) = some (.iptr e o,[]):=rfl
@[go_sem] theorem frz_mapI (d : Nat) (k0 : IntKind) (ks : List Int) (vs : List AV) : frz R (d + 1) (.mapI k0 ks vs) = some (.mapI k0 ks vs,[]):=rfl
@[go_sem] theorem frz_nilS (d sz : Nat) : frz R (d + 1) (.nilS sz) = some (.list sz [],[]):=rfl
@[go_sem] theorem frz_slice (d id off len : Nat) : frz R (d + 1) (.slice id off len) = obind (R id) (frzSl id off len):=by
 simp only [frz]; cases R id with
 | none => rfl
 | some r => cases r <;> rfl
@[go_sem] theorem frz_ptr (d id idx off : Nat) : frz R (d + 1) (.ptr id idx off) = obind (R id) (frzPt (frz R d) id idx off):=by
 simp only [frz]; cases R id with
 | none => rfl
 | some r =>
  cases r with
  | box cs => simp only [obind,frzPt,grd]; split <;> (try rfl); cases frzL (frz R d) cs <;> rfl
  | arr sz es => simp only [obind,frzPt]; cases es[idx]? <;> rfl
  | tab sz es => rfl
  | mp k kv => rfl
  | mpS ks keys vals => rfl
  | mpV k kv => rfl
  | iter l c => rfl
  | mpE ks keys vals i q => rfl
  | num m => rfl
  | log k xs => rfl
@[go_sem] theorem frz_agg (d : Nat) (cs : List AV) : frz R (d + 1) (.agg cs) = obind (frzL (frz R d) cs) fun p=>some (.agg p.1,p.2):=by
 simp only [frz]; cases frzL (frz R d) cs <;> rfl
@[go_sem] theorem frz_func (d f : Nat) (cs : List AV) : frz R (d + 1) (.func f cs) = obind (frzL (frz R d) cs) fun p=>some (.func f p.1,p.2):=by
 simp only [frz]; cases frzL (frz R d) cs <;> rfl
@[go_sem] theorem frz_meth (d f : Nat) (b : AV) : frz R (d + 1) (.meth f b) = obind (frz R d b) fun p=>some (.meth f p.1,p.2):=by
 simp only [frz]; cases frz R d b <;> rfl
def exSl (id off len : Nat) : Row → Option Ex
 | .arr sz es => if off = 0∧len = es.length then some ⟨.own sz es,[id],[]⟩
   else if off = 0∧len≤es.length then some ⟨.own sz (es.take len),[id],[]⟩
   else if off + len≤es.length then some ⟨.list sz ((es.drop off).take len),[],[id]⟩ else none
 | _ => none
@[go_sem] theorem exSl_own (id len sz : Nat) (es : List AV) (h : len = es.length) : exSl id 0 len (.arr sz es) = some ⟨.own sz es,[id],[]⟩:=by simp [exSl,h]
theorem exSl_prefix (id len sz : Nat) (es : List AV) (h : len < es.length) : exSl id 0 len (.arr sz es) = some ⟨.own sz (es.take len),[id],[]⟩:=by
 simp only [exSl]; rw [if_neg (fun h' => by have:=h'.2; omega),if_pos ⟨trivial,by omega⟩]
theorem exSl_part (id off len sz : Nat) (es : List AV) (h : ¬ off = 0) (h2 : off + len≤es.length) : exSl id off len (.arr sz es) = some ⟨.list sz ((es.drop off).take len),[],[id]⟩:=by simp [exSl,h,h2]
@[go_sem] theorem exCell_int (k : IntKind) (n : Int) : exCell R (.int k n) = some ⟨.int k n,[],[]⟩:=rfl
@[go_sem] theorem exCell_bool (b : Bool) : exCell R (.bool b) = some ⟨.bool b,[],[]⟩:=rfl
@[go_sem] theorem exCell_list (sz : Nat) (es : List AV) : exCell R (.list sz es) = some ⟨.list sz es,[],[]⟩:=rfl
@[go_sem] theorem exCell_nilS (sz : Nat) : exCell R (.nilS sz) = some ⟨.own sz [],[],[]⟩:=rfl
@[go_sem] theorem exCell_func (f : Nat) (cs : List AV) : exCell R (.func f cs) = obind (frz R frzDepth (.func f cs)) fun p=>some ⟨p.1,[],p.2⟩:=by
 simp only [exCell]; cases frz R frzDepth (.func f cs) <;> rfl
@[go_sem] theorem exCell_meth (f : Nat) (b : AV) : exCell R (.meth f b) = obind (frz R frzDepth (.meth f b)) fun p=>some ⟨p.1,[],p.2⟩:=by
 simp only [exCell]; cases frz R frzDepth (.meth f b) <;> rfl
@[go_sem] theorem asM_mp (kv : List (Int × AV)) : Row.asM (.mp .i64 kv) = some ([],kvK kv,kvV kv):=rfl
@[go_sem] theorem asM_mpS (b : Bool) (ks : List Bool) (keys : List (List AV)) (vals : List AV) : Row.asM (.mpS (b :: ks) keys vals) = some (b :: ks,keys,vals):=rfl
@[go_sem] theorem mapRow_kv (kv : List (Int × AV)) : mapRow [] (kvK kv) (kvV kv) = .mp .i64 kv:=by unfold mapRow; rw [kvOf_kv]
@[go_sem] theorem mapRow_zero : mapRow [] [] [] = .mp .i64 []:=rfl
@[go_sem] theorem mapRow_cons (b : Bool) (ks : List Bool) (keys : List (List AV)) (vals : List AV) : mapRow (b :: ks) keys vals = .mpS (b :: ks) keys vals:=rfl
def exMp (id : Nat) (r : Row) : Option Ex:=obind r.asM fun m=>some ⟨.ownM m.1 m.2.1 m.2.2,[id],[]⟩
attribute [go_sem] exMp.eq_1
@[go_sem] theorem exCell_mapp (id : Nat) : exCell R (.mapp id) = obind (R id) (exMp id):=by
 simp only [exCell]; cases R id with
 | none => rfl
 | some r => simp only [obind,exMp]; cases r.asM <;> rfl
@[go_sem] theorem exCell_slice (id off len : Nat) : exCell R (.slice id off len) = obind (R id) (exSl id off len):=by
 simp only [exCell]; cases R id with
 | none => rfl
 | some r => cases r <;> rfl
@[go_sem] theorem exL_nil (f : AV → Option Ex) : exL f [] = some ([],[],[]):=rfl
@[go_sem] theorem exL_cons (f : AV → Option Ex) (c : AV) (r : List AV) : exL f (c :: r) = obind (f c) fun x=>obind (exL f r) fun q=>some (x.v :: q.1,x.mv ++ q.2.1,x.fz ++ q.2.2):=by
 simp only [exL]; cases f c with
 | none => rfl
 | some x => cases exL f r <;> rfl
@[go_sem] theorem exItem_int (k : IntKind) (n : Int) : exItem R (.int k n) = some ⟨.int k n,[],[]⟩:=rfl
@[go_sem] theorem exItem_bool (b : Bool) : exItem R (.bool b) = some ⟨.bool b,[],[]⟩:=rfl
@[go_sem] theorem exItem_list (sz : Nat) (es : List AV) : exItem R (.list sz es) = some ⟨.list sz es,[],[]⟩:=rfl
@[go_sem] theorem exItem_nilS (sz : Nat) : exItem R (.nilS sz) = some ⟨.own sz [],[],[]⟩:=rfl
@[go_sem] theorem exItem_slice (id off len : Nat) : exItem R (.slice id off len) = obind (R id) (exSl id off len):=exCell_slice id off len
@[go_sem] theorem exItem_agg (cs : List AV) : exItem R (.agg cs) = obind (exL (exCell R) cs) fun q=>some ⟨.agg q.1,q.2.1,q.2.2⟩:=by
 simp only [exItem]; cases exL (exCell R) cs <;> rfl
@[go_sem] theorem exRes_int (k : IntKind) (n : Int) : exRes R (.int k n) = some ⟨.int k n,[],[]⟩:=rfl
@[go_sem] theorem exRes_bool (b : Bool) : exRes R (.bool b) = some ⟨.bool b,[],[]⟩:=rfl
@[go_sem] theorem exRes_list (sz : Nat) (es : List AV) : exRes R (.list sz es) = some ⟨.list sz es,[],[]⟩:=rfl
@[go_sem] theorem exRes_nilS (sz : Nat) : exRes R (.nilS sz) = some ⟨.own sz [],[],[]⟩:=rfl
@[go_sem] theorem exRes_slice (id off len : Nat) : exRes R (.slice id off len) = obind (R id) (exSl id off len):=exCell_slice id off len
@[go_sem] theorem exRes_agg (cs : List AV) : exRes R (.agg cs) = obind (exL (exCell R) cs) fun q=>some ⟨.agg q.1,q.2.1,q.2.2⟩:=exItem_agg cs
@[go_sem] theorem exRes_tuple (vs : List AV) : exRes R (.tuple vs) = obind (exL (exItem R) vs) fun q=>some ⟨.tuple q.1,q.2.1,q.2.2⟩:=by
 simp only [exRes]; cases exL (exItem R) vs <;> rfl
section
variable {call : CallF} {s : Nat} {g : AOpd → Option AV}
@[go_sem] theorem part_t (off n : Nat) (cs : List AV) : part true off n cs = grd (off + n≤cs.length) (some (.agg ((cs.drop off).take n))):=rfl
@[go_sem] theorem part_f (off n : Nat) (cs : List AV) : part false off n cs = grd (off + n≤cs.length) cs[off]?:=rfl
@[go_sem] theorem ev_mv (x : AOpd) : evalOp call s g R (.mv x) = obind (g x) fun v=>some ⟨v,[],[]⟩:=by
 simp only [evalOp]; cases g x <;> rfl
def pickV (a b : Option AV) : AV → Option Eff
 | .bool true => obind a fun v=>some ⟨v,[],[]⟩
 | .bool false => obind b fun v=>some ⟨v,[],[]⟩
 | _ => none
attribute [go_sem] pickV.eq_1 pickV.eq_2
@[go_sem] theorem ev_pick (c a b : AOpd) : evalOp call s g R (.pick c a b) = obind (g c) (pickV (g a) (g b)):=by
 simp only [evalOp]; cases g c with
 | none => rfl
 | some v =>
  cases v with
  | bool q => cases q <;> simp only [obind,pickV] <;> first | (cases g a <;> rfl) | (cases g b <;> rfl)
  | _ => rfl
@[go_sem] theorem ev_alloc (cs : List AV) : evalOp call s g R (.alloc cs) = grdB (cs.all AV.scalar) (some ⟨.ptr s 0 0,[(s,some (.box cs))],[]⟩):=rfl
@[go_sem] theorem ev_box (x : AOpd) : evalOp call s g R (.box x) = obind (g x) fun v=>grdB (v.cells.all AV.scalar) (some ⟨.ptr s 0 0,[(s,some (.box v.cells))],[]⟩):=by
 simp only [evalOp]; cases g x <;> rfl
@[go_sem] theorem bd_part (p : Nat × Nat × AOpd) : bdPart g p = obind (g p.2.2) fun v=>some (p.1,p.2.1,v):=by
 simp only [bdPart]; cases g p.2.2 <;> rfl
@[go_sem] theorem setParts_nil (cs : List AV) : setParts cs [] = some cs:=rfl
@[go_sem] theorem setParts_cons (cs : List AV) (off n : Nat) (v : AV) (r : List (Nat × Nat × AV)) : setParts cs ((off,n,v) :: r) = grd (v.cells.length = n) (grd (off + n≤cs.length) (grdB (v.cells.all AV.scalar) (setParts (splice cs off n v.cells) r))):=by
 simp only [setParts,grd,grdB];by_cases h1 : v.cells.length = n <;> by_cases h2 : off + n≤cs.length <;> cases h3 : v.cells.all AV.scalar <;> simp [h1,h2]
@[go_sem] theorem ev_build (z : List AV) (ps : List (Nat × Nat × AOpd)) : evalOp call s g R (.build z ps) = obind (mapO (bdPart g) ps) fun q=>obind (setParts z q) fun cs=>some ⟨.agg cs,[],[]⟩:=by
 simp only [evalOp]; cases mapO (bdPart g) ps with
 | none => rfl
 | some q => simp only [obind]; cases setParts z q <;> rfl
@[go_sem] theorem mk_part (p : Nat × AOpd) : mkPart g R p = obind (g p.2) fun v=>obind (frz R frzDepth v) fun q=>some (p.1,q.1,q.2):=by
 simp only [mkPart]; cases g p.2 with
 | none => rfl
 | some v => simp only [obind]; cases frz R frzDepth v <;> rfl
@[go_sem] theorem setElems_nil (sz : Nat) (es : List AV) : setElems sz es [] = some es:=rfl
@[go_sem] theorem setElems_cons (sz : Nat) (es : List AV) (i : Nat) (v : AV) (r : List (Nat × AV)) : setElems sz es ((i,v) :: r) = grd (i < es.length) (grd (v.cells.length = sz) (grdB (v.cells.all AV.scalar) (setElems sz (es.set i v) r))):=by
 simp only [setElems,grd,grdB];by_cases h1 : i < es.length <;> by_cases h2 : v.cells.length = sz <;> cases h3 : v.cells.all AV.scalar <;> simp [h1,h2]
@[go_sem] theorem ev_mkList0 (sz : Nat) (z : AV) : evalOp call s g R (.mkList sz z 0 []) = some ⟨.nilS sz,[],[]⟩:=rfl
@[go_sem] theorem ev_mkList (sz : Nat) (z : AV) (len : Nat) (ps : List (Nat × AOpd)) : evalOp call s g R (.mkList sz z (len + 1) ps) = obind (mapO (mkPart g R) ps) fun q=>obind (setElems sz (List.replicate (len + 1) z) (q.map fun p=>(p.1,p.2.1))) fun es =>
  some ⟨.slice s 0 (len + 1),(s,some (.arr sz es)) :: gone (q.flatMap fun p=>p.2.2),q.flatMap fun p=>p.2.2⟩:=by
 simp only [evalOp,evMkList]; cases mapO (mkPart g R) ps with
 | none => rfl
 | some q => simp only [obind]; cases setElems sz (List.replicate (len + 1) z) (q.map fun p=>(p.1,p.2.1)) <;> rfl
def loadR (id idx off n : Nat) (ag : Bool) : Row → Option Eff
 | .arr _ es => obind es[idx]? fun e=>obind (part ag off n e.cells) fun v=>some ⟨v,[],[id]⟩
 | .box cs => grd (idx = 0) (obind (part ag off n cs) fun v=>some ⟨v,[],[id]⟩)
 | _ => none
def loadT (id idx off n : Nat) (ag : Bool) : Row → Option Eff
 | .tab sz es => obind es[idx]? fun e=>obind (part ag off n (tabCells id (idx * sz) e.cells)) fun v=>some ⟨v,[],[id]⟩
 | _ => none
def loadIn (id j n : Nat) (ag : Bool) : AV → Option Eff
 | .own _ xs => obind xs[j]? fun x=>grd (n = 1∧ag = false) (some ⟨x,[],[id]⟩)
 | _ => none
def loadI (id p j n : Nat) (ag : Bool) : Row → Option Eff
 | .tab _ es => obind (es.flatMap AV.cells)[p]? (loadIn id j n ag)
 | _ => none
def loadV (R : Nat → Option Row) (n : Nat) (ag : Bool) : AV → Option Eff
 | .iptr e off => obind (part ag off n e.cells) fun v=>some ⟨v,[],[]⟩
 | .ptr id idx off => obind (R id) (loadR id idx off n ag)
 | .tabP id idx off => obind (R id) (loadT id idx off n ag)
 | .inP id p j => obind (R id) (loadI id p j n ag)
 | _ => none
attribute [go_sem] loadR.eq_1 loadR.eq_2 loadV.eq_1 loadV.eq_2 loadV.eq_3 loadV.eq_4 loadT.eq_1 loadI.eq_1 loadIn.eq_1
@[go_sem] theorem ev_load (n : Nat) (ag : Bool) (a : AOpd) : evalOp call s g R (.load n ag a) = obind (g a) (loadV R n ag):=by
 simp only [evalOp,evLoad]; cases g a with
 | none => rfl
 | some v =>
  cases v with
  | iptr e off => simp only [obind,loadV]; cases part ag off n e.cells <;> rfl
  | ptr id idx off =>
   simp only [obind,loadV];cases R id with
   | none => rfl
   | some r =>
    cases r with
    | arr sz es =>
     simp only [loadR];cases es[idx]? with
     | none => rfl
     | some e => simp only [obind]; cases part ag off n e.cells <;> rfl
    | box cs => simp only [loadR,grd]; split <;> (try rfl); simp only [obind]; cases part ag off n cs <;> rfl
    | tab sz es => rfl
    | mp k kv => rfl
    | mpS ks keys vals => rfl
    | mpV k kv => rfl
    | iter l c => rfl
    | mpE ks keys vals i q => rfl
    | num m => rfl
    | log k xs => rfl
  | tabP id idx off =>
   simp only [obind,loadV];cases R id with
   | none => rfl
   | some r =>
    cases r <;> try rfl
    rename_i sz es;simp only [loadT];cases es[idx]? with
    | none => rfl
    | some e => simp only [obind]; cases part ag off n (tabCells id (idx * sz) e.cells) <;> rfl
  | inP id p j =>
   simp only [obind,loadV];cases R id with
   | none => rfl
   | some r =>
    cases r <;> try rfl
    rename_i sz es;simp only [loadI];cases (es.flatMap AV.cells)[p]? with
    | none => rfl
    | some c =>
     cases c <;> try rfl
     rename_i q xs;simp only [obind,loadIn];cases xs[j]? <;> rfl
  | _ => rfl
def storeR (R : Nat → Option Row) (id idx off n : Nat) (v : AV) : Row → Option Eff
 | .arr sz es => obind es[idx]? fun e=>grd (off + n≤e.cells.length) (obind (frzL (frz R frzDepth) v.cells) fun q=>obind (reElem e (splice e.cells off n q.1)) fun e' =>
   grdB (!q.2.contains id) (some ⟨.tuple [],(id,some (.arr sz (es.set idx e'))) :: gone q.2,id :: q.2⟩))
 | .box cs => grd (idx = 0) (grd (off + n≤cs.length) (some ⟨.tuple [],[(id,some (.box (splice cs off n v.cells)))],[id]⟩))
 | _ => none
def storeIn (id p j n : Nat) (v : AV) (sz : Nat) (es : List AV) : AV → Option Eff
 | .own q xs => grd (n = 1) (grd (j < xs.length) (grdB v.plain1 (some ⟨.tuple [],[(id,some (.tab sz (tabSet p (.own q (xs.set j v)) es)))],[id]⟩)))
 | _ => none
def storeI (id p j n : Nat) (v : AV) : Row → Option Eff
 | .tab sz es => obind (es.flatMap AV.cells)[p]? (storeIn id p j n v sz es)
 | _ => none
def storeV (R : Nat → Option Row) (n : Nat) (v : AV) : AV → Option Eff
 | .ptr id idx off => grd (v.cells.length = n) (grdB (v.cells.all AV.scalar) (obind (R id) (storeR R id idx off n v)))
 | .inP id p j => obind (R id) (storeI id p j n v)
 | _ => none
attribute [go_sem] storeR.eq_1 storeR.eq_2 storeV.eq_1 storeV.eq_2 storeI.eq_1 storeIn.eq_1
@[go_sem] theorem ev_store (n : Nat) (a x : AOpd) : evalOp call s g R (.store n a x) = obind (g a) fun p=>obind (g x) fun v=>storeV R n v p:=by
 simp only [evalOp,evStore]; cases g a with
 | none => rfl
 | some p =>
  cases g x with
  | none => cases p <;> rfl
  | some v =>
   cases p with
   | ptr id idx off =>
    simp only [obind,storeV,grd,grdB];by_cases h1 : v.cells.length = n
    ·by_cases h2 : v.cells.all AV.scalar = true
     ·simp only [h1,h2,and_self,if_true]
      cases R id with
      | none => rfl
      | some r =>
       cases r with
       | arr sz es =>
        simp only [storeR];cases es[idx]? with
        | none => rfl
        | some e =>
         simp only [obind,grd];split
         ·cases frzL (frz R frzDepth) v.cells with
          | none => rfl
          | some q =>
           simp only;cases reElem e (splice e.cells off n q.1) with
           | none => rfl
           | some e' =>
            simp only [grdB];cases q.2.contains id <;> rfl
         ·rfl
       | box cs => simp only [storeR,grd]; by_cases h3 : idx = 0 <;> by_cases h4 : off + n≤cs.length <;> simp [h3,h4]
       | tab sz es => rfl
       | mp k kv => rfl
       | mpS ks keys vals => rfl
       | mpV k kv => rfl
       | iter l c => rfl
       | mpE ks keys vals i q => rfl
       | num m => rfl
       | log k xs => rfl
     ·simp [h2]
    ·simp [h1]
   | inP id p j =>
    simp only [obind,storeV];cases R id with
    | none => rfl
    | some r =>
     cases r <;> try rfl
     rename_i sz es;simp only [storeI];cases (es.flatMap AV.cells)[p]? with
     | none => rfl
     | some c =>
      cases c <;> try rfl
      rename_i q xs;simp only [obind,storeIn,grd,grdB];by_cases h1 : n = 1 <;> by_cases h2 : j < xs.length <;> cases h3 : v.plain1 <;> simp [h1,h2]
   | _ => rfl
def nilV : AV → Option Eff
 | .ptr a b c => some ⟨.ptr a b c,[],[]⟩
 | .iptr e o => some ⟨.iptr e o,[],[]⟩
 | _ => none
attribute [go_sem] nilV.eq_1 nilV.eq_2
@[go_sem] theorem ev_nilCk (x : AOpd) : evalOp call s g R (.nilCk x) = obind (g x) nilV:=by
 simp only [evalOp]; cases g x with
 | none => rfl
 | some v => cases v <;> rfl
def binV (op : BinOp) : AV → AV → Option Eff
 | .int k a,.int k' b => obind (binI op k a k' b) fun v=>some ⟨v,[],[]⟩
 | _,_ => none
@[go_sem] theorem binV_int (op : BinOp) (k k' : IntKind) (a b : Int) : binV op (.int k a) (.int k' b) = obind (binI op k a k' b) fun v=>some ⟨v,[],[]⟩:=rfl
@[go_sem] theorem ev_bin (op : BinOp) (x y : AOpd) : evalOp call s g R (.bin op x y) = obind (g x) fun a=>obind (g y) fun b=>binV op a b:=by
 simp only [evalOp]; cases g x with
 | none => rfl
 | some a =>
  cases g y with
  | none => cases a <;> rfl
  | some b =>
   cases a <;> cases b <;> simp only [obind,binV]
   rename_i k n k' n';cases binI op k n k' n' <;> rfl
@[go_sem] theorem bi_add (k : IntKind) (a b : Int) : binI .add k a k b = some (.int k (k.wrap (a + b))):=by simp [binI]
@[go_sem] theorem bi_sub (k : IntKind) (a b : Int) : binI .sub k a k b = some (.int k (k.wrap (a - b))):=by simp [binI]
@[go_sem] theorem bi_mul (k : IntKind) (a b : Int) : binI .mul k a k b = some (.int k (k.wrap (a * b))):=by simp [binI]
@[go_sem] theorem bi_quo (k : IntKind) (a b : Int) : binI .quo k a k b = grd (b ≠ 0) (some (.int k (k.wrap (a.tdiv b)))):=by simp [binI,grd]
@[go_sem] theorem bi_rem (k : IntKind) (a b : Int) : binI .rem k a k b = grd (b ≠ 0) (some (.int k (a.tmod b))):=by simp [binI,grd]
@[go_sem] theorem bi_and (k : IntKind) (a b : Int) : binI .and k a k b = some (.int k (k.wrap (BitVec.ofInt k.bits a &&& BitVec.ofInt k.bits b).toNat)):=by simp [binI]
@[go_sem] theorem bi_or (k : IntKind) (a b : Int) : binI .or k a k b = some (.int k (k.wrap (BitVec.ofInt k.bits a ||| BitVec.ofInt k.bits b).toNat)):=by simp [binI]
@[go_sem] theorem bi_xor (k : IntKind) (a b : Int) : binI .xor k a k b = some (.int k (k.wrap (BitVec.ofInt k.bits a ^^^ BitVec.ofInt k.bits b).toNat)):=by simp [binI]
@[go_sem] theorem bi_andNot (k : IntKind) (a b : Int) : binI .andNot k a k b = some (.int k (k.wrap (BitVec.ofInt k.bits a &&& ~~~ BitVec.ofInt k.bits b).toNat)):=by simp [binI]
@[go_sem] theorem bi_shl (k k' : IntKind) (a b : Int) : binI .shl k a k' b = grd (0≤b) (some (.int k (k.wrap (a * 2 ^ min b.toNat k.bits)))):=by
 simp only [binI,grd]; by_cases h : b < 0
 ·simp [h,Int.not_le.2 h]
 ·simp [h,Int.not_lt.1 h]
@[go_sem] theorem bi_shr (k k' : IntKind) (a b : Int) : binI .shr k a k' b = grd (0≤b) (some (.int k (a.fdiv (2 ^ min b.toNat k.bits)))):=by
 simp only [binI,grd]; by_cases h : b < 0
 ·simp [h,Int.not_le.2 h]
 ·simp [h,Int.not_lt.1 h]
@[go_sem] theorem bi_eql (k : IntKind) (a b : Int) : binI .eql k a k b = some (.bool (decide (a = b))):=by simp [binI]; rfl
@[go_sem] theorem bi_neq (k : IntKind) (a b : Int) : binI .neq k a k b = some (.bool (decide (a ≠ b))):=by simp [binI,bne]; by_cases h : a = b <;> simp [h]
@[go_sem] theorem bi_lss (k : IntKind) (a b : Int) : binI .lss k a k b = some (.bool (decide (a < b))):=by simp [binI]
@[go_sem] theorem bi_leq (k : IntKind) (a b : Int) : binI .leq k a k b = some (.bool (decide (a≤b))):=by simp [binI]
@[go_sem] theorem bi_gtr (k : IntKind) (a b : Int) : binI .gtr k a k b = some (.bool (decide (b < a))):=by simp [binI]
@[go_sem] theorem bi_geq (k : IntKind) (a b : Int) : binI .geq k a k b = some (.bool (decide (b≤a))):=by simp [binI]
def eqV (neg : Bool) (ks : Option (List Bool)) : AV → AV → Option Eff
 | .bool a,.bool b => match ks with
  | none => some ⟨.bool ((a == b) != neg),[],[]⟩
  | some _ => none
 | .agg a,.agg b => match ks with
  | some ks => obind (eqCells ks a b) fun q=>some ⟨.bool (q != neg),[],[]⟩
  | none => none
 | _,_ => none
@[go_sem] theorem eqV_b (neg a b : Bool) : eqV neg none (.bool a) (.bool b) = some ⟨.bool ((a == b) != neg),[],[]⟩:=rfl
@[go_sem] theorem eqV_a (neg : Bool) (ks : List Bool) (a b : List AV) : eqV neg (some ks) (.agg a) (.agg b) = obind (eqCells ks a b) fun q=>some ⟨.bool (q != neg),[],[]⟩:=rfl
@[go_sem] theorem ev_eq (neg : Bool) (ks : Option (List Bool)) (x y : AOpd) : evalOp call s g R (.eq neg ks x y) = obind (g x) fun a=>obind (g y) fun b=>eqV neg ks a b:=by
 simp only [evalOp]; cases ks with
 | none =>
  cases g x with
  | none => rfl
  | some a =>
   cases g y with
   | none => cases a <;> rfl
   | some b => cases a <;> cases b <;> rfl
 | some ks =>
  cases g x with
  | none => rfl
  | some a =>
   cases g y with
   | none => cases a <;> rfl
   | some b =>
    cases a <;> cases b <;> simp only [obind,eqV]
    rename_i a b;cases eqCells ks a b <;> rfl
@[go_sem] theorem eqC_nil : eqCells [] [] [] = some true:=rfl
@[go_sem] theorem eqC_int (s : List Bool) (k : IntKind) (a b : Int) (r r' : List AV) : eqCells (true :: s) (.int k a :: r) (.int k b :: r') = obind (eqCells s r r') fun q=>some (decide (a = b) && q):=by
 simp only [eqCells,ne_eq,not_true_eq_false,if_false]; cases eqCells s r r' <;> rfl
@[go_sem] theorem eqC_bool (s : List Bool) (a b : Bool) (r r' : List AV) : eqCells (false :: s) (.bool a :: r) (.bool b :: r') = obind (eqCells s r r') fun q=>some (decide (a = b) && q):=by
 simp only [eqCells]; cases eqCells s r r' <;> cases a <;> cases b <;> rfl
def negV : AV → Option Eff
 | .int k n => some ⟨.int k (k.wrap (0 - n)),[],[]⟩
 | _ => none
def notV : AV → Option Eff
 | .bool b => some ⟨.bool (!b),[],[]⟩
 | _ => none
def convV (k : IntKind) : AV → Option Eff
 | .int _ n => some ⟨.int k (k.wrap n),[],[]⟩
 | _ => none
attribute [go_sem] negV.eq_1 notV.eq_1 convV.eq_1
@[go_sem] theorem ev_neg (x : AOpd) : evalOp call s g R (.un .neg x) = obind (g x) negV:=by
 simp only [evalOp]; cases g x with
 | none => rfl
 | some v => cases v <;> rfl
@[go_sem] theorem ev_not (x : AOpd) : evalOp call s g R (.un .not x) = obind (g x) notV:=by
 simp only [evalOp]; cases g x with
 | none => rfl
 | some v => cases v <;> rfl
@[go_sem] theorem ev_conv (k : IntKind) (x : AOpd) : evalOp call s g R (.conv k x) = obind (g x) (convV k):=by
 simp only [evalOp]; cases g x with
 | none => rfl
 | some v => cases v <;> rfl
@[go_sem] theorem ev_meth (f : Nat) (x : AOpd) : evalOp call s g R (.meth f x) = obind (g x) fun v=>some ⟨.meth f v,[],[]⟩:=by
 simp only [evalOp]; cases g x <;> rfl
@[go_sem] theorem ev_fn (f : Nat) (cap : List AOpd) : evalOp call s g R (.fn f cap) = obind (mapO g cap) fun vs=>some ⟨.func f vs,[],[]⟩:=by
 simp only [evalOp]; cases mapO g cap <;> rfl
def mkSlV (s sz : Nat) (zero : AV) : AV → AV → Option Eff
 | .int .i64 a,.int .i64 b => grd (a = b∧0≤a∧a≤34359738368) (some ⟨.slice s 0 a.toNat,[(s,some (.arr sz (List.replicate a.toNat zero)))],[]⟩)
 | _,_ => none
@[go_sem] theorem mkSlV_int (s sz : Nat) (zero : AV) (a b : Int) : mkSlV s sz zero (.int .i64 a) (.int .i64 b) = grd (a = b∧0≤a∧a≤34359738368) (some ⟨.slice s 0 a.toNat,[(s,some (.arr sz (List.replicate a.toNat zero)))],[]⟩):=rfl
@[go_sem] theorem ev_mkSlice (sz : Nat) (zero : AV) (n c : AOpd) : evalOp call s g R (.mkSlice sz zero n c) = obind (g n) fun a=>obind (g c) fun b=>mkSlV s sz zero a b:=by
 simp only [evalOp]; cases g n with
 | none => rfl
 | some a =>
  cases g c with
  | none =>
   cases a with
   | int k n => cases k <;> rfl
   | _ => rfl
  | some b =>
   cases a with
   | int k n =>
    cases b with
    | int k' n' => cases k <;> cases k' <;> rfl
    | _ => cases k <;> rfl
   | _ => rfl
def slR (sz id off len : Nat) (l h : Int) : Row → Option Eff
 | .arr sz' _ => grd (sz' = sz∧0≤l∧l≤h∧h≤len) (some ⟨.slice id (off + l.toNat) (h - l).toNat,[],[id]⟩)
 | _ => none
def slV (R : Nat → Option Row) (sz : Nat) : AV → AV → Option AV → Option Eff
 | .slice id off len,.int _ l,none => obind (R id) (slR sz id off len l len)
 | .slice id off len,.int _ l,some (.int _ h) => obind (R id) (slR sz id off len l h)
 | .list sz' es,.int _ l,none => grd (sz' = sz∧0≤l∧l≤es.length) (some ⟨.list sz ((es.drop l.toNat).take (es.length - l).toNat),[],[]⟩)
 | .list sz' es,.int _ l,some (.int _ h) => grd (sz' = sz∧0≤l∧l≤h∧h≤es.length) (some ⟨.list sz ((es.drop l.toNat).take (h - l).toNat),[],[]⟩)
 | v,.int _ l,none => if v.isNil = true then grd (l = 0) (some ⟨v,[],[]⟩) else none
 | v,.int _ l,some (.int _ h) => if v.isNil = true then grd (l = 0∧h = 0) (some ⟨v,[],[]⟩) else none
 | _,_,_ => none
attribute [go_sem] slR.eq_1 slV.eq_1 slV.eq_2 slV.eq_3 slV.eq_4
@[go_sem] theorem slV_nil0 (sz k : Nat) (q : IntKind) (l : Int) : slV R sz (.nilS k) (.int q l) none = grd (l = 0) (some ⟨.nilS k,[],[]⟩):=rfl
@[go_sem] theorem slV_nil (sz k : Nat) (q q' : IntKind) (l h : Int) : slV R sz (.nilS k) (.int q l) (some (.int q' h)) = grd (l = 0∧h = 0) (some ⟨.nilS k,[],[]⟩):=rfl
@[go_sem] theorem slV_nilC0 (sz : Nat) (q : IntKind) (l : Int) : slV R sz (.const (.slice none 0 0)) (.int q l) none = grd (l = 0) (some ⟨.const (.slice none 0 0),[],[]⟩):=rfl
@[go_sem] theorem slV_nilC (sz : Nat) (q q' : IntKind) (l h : Int) : slV R sz (.const (.slice none 0 0)) (.int q l) (some (.int q' h)) = grd (l = 0∧h = 0) (some ⟨.const (.slice none 0 0),[],[]⟩):=rfl
def capV (v : AV) : Option Eff:=if v.isNil = true then some ⟨.int .i64 0,[],[]⟩ else none
@[go_sem] theorem capV_nil (sz : Nat) : capV (.nilS sz) = some ⟨.int .i64 0,[],[]⟩:=rfl
@[go_sem] theorem capV_nilC : capV (.const (.slice none 0 0)) = some ⟨.int .i64 0,[],[]⟩:=rfl
def apZ (s sz : Nat) (zero : AV) : AV → AV → Option Eff
 | v,.int .i64 m => if v.isNil = true∧0 < m∧m≤1000000 then some ⟨.slice s 0 m.toNat,[(s,some (.arr sz (List.replicate m.toNat zero)))],[]⟩ else none
 | _,_ => none
@[go_sem] theorem apZ_nil (s sz : Nat) (zero : AV) (k : Nat) (m : Int) : apZ s sz zero (.nilS k) (.int .i64 m) = grd (0 < m∧m≤1000000) (some ⟨.slice s 0 m.toNat,[(s,some (.arr sz (List.replicate m.toNat zero)))],[]⟩):=by
 simp [apZ,AV.isNil,grd]
@[go_sem] theorem apZ_nilC (s sz : Nat) (zero : AV) (m : Int) : apZ s sz zero (.const (.slice none 0 0)) (.int .i64 m) = grd (0 < m∧m≤1000000) (some ⟨.slice s 0 m.toNat,[(s,some (.arr sz (List.replicate m.toNat zero)))],[]⟩):=by
 simp [apZ,AV.isNil,grd]
@[go_sem] theorem ev_capN (x : AOpd) : evalOp call s g R (.capN x) = obind (g x) capV:=by
 simp only [evalOp,evCapN]; cases g x with
 | none => rfl
 | some v => rfl
def apW (s sz : Nat) (zero : AV) (id len : Nat) (m : Int) : Row → Option Eff
 | .arr sz' es => grd (sz' = sz∧len = es.length∧0 < len∧len≤1000000∧0≤m∧m≤1000000) (some ⟨.slice s 0 (len + m.toNat),[(s,some (.arr sz (es ++ List.replicate m.toNat zero))),(id,none)],[id]⟩)
 | _ => none
attribute [go_sem] apW.eq_1
def apY (s : Nat) (R : Nat → Option Row) (sz : Nat) (zero : AV) : AV → AV → Option Eff
 | .slice id 0 len,.int .i64 m => obind (R id) (apW s sz zero id len m)
 | v,w => apZ s sz zero v w
@[go_sem] theorem apY_nil (s sz : Nat) (zero : AV) (k : Nat) (w : AV) : apY s R sz zero (.nilS k) w = apZ s sz zero (.nilS k) w:=rfl
@[go_sem] theorem apY_nilC (s sz : Nat) (zero : AV) (v : Value) (w : AV) : apY s R sz zero (.const v) w = apZ s sz zero (.const v) w:=rfl
@[go_sem] theorem apY_slice (s sz : Nat) (zero : AV) (id len : Nat) (m : Int) : apY s R sz zero (.slice id 0 len) (.int .i64 m) = obind (R id) (apW s sz zero id len m):=rfl
@[go_sem] theorem ev_appZ (sz : Nat) (zero : AV) (d n : AOpd) : evalOp call s g R (.appZ sz zero d n) = obind (g d) fun a=>obind (g n) fun b=>apY s R sz zero a b:=by
 simp only [evalOp,evAppY,evAppZ]; cases g d with
 | none => rfl
 | some a =>
  cases g n with
  | none => rfl
  | some b =>
   simp only [obind];have other : ∀ v : AV,(∀ id len,v ≠ .slice id 0 len) → evAppW s R sz zero v = fun _=>none:=fun v hv => by
    funext m;unfold evAppW;split
    ·exact absurd rfl (hv _ _)
    ·rfl
   cases b;case int k m =>
    cases k;case i64 =>
     cases a;case slice id off len =>
      cases off;case zero =>
       simp only [AV.isNil,Bool.false_eq_true,if_false,apY,evAppW];cases R id with
       | none => rfl
       | some r => cases r <;> first | rfl | (simp only [obind,apW,grd]; rfl)
      case succ => simp [AV.isNil,apY,apZ,evAppW]
     all_goals
      simp only [apY,apZ];split
      ·rename_i h
       simp only [h,true_and]
      ·rename_i h
       rw [other _ (by intro _ _ h; cases h)]
       rw [if_neg (fun q=>h q.1)]
    all_goals (cases a <;> first | rfl | (rename_i id off len; cases off <;> rfl))
   all_goals (cases a <;> first | rfl | (rename_i id off len; cases off <;> rfl))
@[go_sem] theorem ev_slice00 (sz : Nat) (x : AOpd) : evalOp call s g R (.slice sz x none none) = obind (g x) fun v=>slV R sz v (.int .i64 0) none:=by
 simp only [evalOp,evSlice]; cases g x with
 | none => rfl
 | some v =>
  cases v with
  | slice id off len => simp only [obind,slV]; cases R id with
   | none => rfl
   | some r => cases r <;> rfl
  | list sz' es => simp only [obind,slV,grd]; by_cases h : sz' = sz <;> simp [h,Eff.pure]
  | _ => simp [obind,slV,grd,Eff.pure]
@[go_sem] theorem ev_slice10 (sz : Nat) (x l : AOpd) : evalOp call s g R (.slice sz x (some l) none) = obind (g x) fun v=>obind (g l) fun a=>slV R sz v a none:=by
 simp only [evalOp,evSlice]; cases g x with
 | none => rfl
 | some v =>
  cases g l with
  | none => rfl
  | some a =>
   cases a with
   | int k n =>
    cases v with
    | slice id off len => simp only [obind,slV]; cases R id with
     | none => rfl
     | some r => cases r <;> rfl
    | list sz' es => simp only [obind,slV,grd]; by_cases h : sz' = sz <;> by_cases h2 : 0≤n <;> by_cases h3 : n≤es.length <;> simp [h,h2,h3,Eff.pure]
    | _ => by_cases h : n = 0 <;> simp [obind,slV,grd,Eff.pure,h]
   | _ => cases v <;> rfl
@[go_sem] theorem ev_slice01 (sz : Nat) (x h : AOpd) : evalOp call s g R (.slice sz x none (some h)) = obind (g x) fun v=>obind (g h) fun b=>slV R sz v (.int .i64 0) (some b):=by
 simp only [evalOp,evSlice]; cases g x with
 | none => rfl
 | some v =>
  cases g h with
  | none => cases v <;> rfl
  | some b =>
   cases v with
   | slice id off len =>
    cases hR : R id with
    | none => cases b <;> simp [obind,slV,hR]
    | some r => cases r <;> cases b <;> simp [obind,slV,slR,hR,grd]
   | list sz' es => cases b <;> rfl
   | _ => cases b <;> simp [obind,slV,grd,Eff.pure]
@[go_sem] theorem ev_slice11 (sz : Nat) (x l h : AOpd) : evalOp call s g R (.slice sz x (some l) (some h)) = obind (g x) fun v=>obind (g l) fun a=>obind (g h) fun b=>slV R sz v a (some b):=by
 simp only [evalOp,evSlice]; cases g x with
 | none => rfl
 | some v =>
  cases g l with
  | none => cases v <;> rfl
  | some a =>
   cases g h with
   | none => cases a <;> cases v <;> rfl
   | some b =>
    cases a with
    | int k l =>
     cases v with
     | slice id off len =>
      cases hR : R id with
      | none => cases b <;> simp [obind,slV,hR]
      | some r => cases r <;> cases b <;> simp [obind,slV,slR,hR,grd]
     | list sz' es => cases b <;> rfl
     | _ => cases b <;> simp [obind,slV,grd,Eff.pure]
    | _ => cases v <;> rfl
def faV (off : Nat) : AV → Option Eff
 | .ptr id idx o => some ⟨.ptr id idx (o + off),[],[]⟩
 | .iptr e o => some ⟨.iptr e (o + off),[],[]⟩
 | .tabP id idx o => some ⟨.tabP id idx (o + off),[],[]⟩
 | _ => none
def fdV (off n : Nat) (ag : Bool) : AV → Option Eff
 | .agg cs => obind (part ag off n cs) fun v=>some ⟨v,[],[]⟩
 | _ => none
attribute [go_sem] faV.eq_1 faV.eq_2 faV.eq_3 fdV.eq_1
@[go_sem] theorem ev_fieldA (off : Nat) (x : AOpd) : evalOp call s g R (.fieldA off x) = obind (g x) (faV off):=by
 simp only [evalOp]; cases g x with
 | none => rfl
 | some v => cases v <;> rfl
@[go_sem] theorem ev_field (off n : Nat) (ag : Bool) (x : AOpd) : evalOp call s g R (.field off n ag x) = obind (g x) (fdV off n ag):=by
 simp only [evalOp]; cases g x with
 | none => rfl
 | some v =>
  cases v <;> simp only [obind,fdV]
  rename_i cs; cases part ag off n cs <;> rfl
def iaR (sz id off len : Nat) (n : Int) : Row → Option Eff
 | .arr sz' _ => grd (sz' = sz∧0≤n∧n < len) (some ⟨.ptr id (off + n.toNat) 0,[],[id]⟩)
 | _ => none
def iaT (sz id len : Nat) (n : Int) : Row → Option Eff
 | .tab sz' _ => grd (sz' = sz∧0≤n∧n < len) (some ⟨.tabP id n.toNat 0,[],[id]⟩)
 | _ => none
def iaI (sz id p len : Nat) (n : Int) : Row → Option Eff
 | .tab _ _ => grd (sz = 1∧0≤n∧n < len) (some ⟨.inP id p n.toNat,[],[id]⟩)
 | _ => none
def iaV (R : Nat → Option Row) (sz : Nat) : AV → AV → Option Eff
 | .tabS id len,.int _ n => obind (R id) (iaT sz id len n)
 | .inS id p len,.int _ n => obind (R id) (iaI sz id p len n)
 | .slice id off len,.int _ n => obind (R id) (iaR sz id off len n)
 | .list sz' es,.int _ n => grd (sz' = sz∧0≤n) (obind es[n.toNat]? fun e=>some ⟨.iptr e 0,[],[]⟩)
 | _,_ => none
attribute [go_sem] iaR.eq_1 iaT.eq_1 iaI.eq_1 iaV.eq_1 iaV.eq_2 iaV.eq_3 iaV.eq_4
@[go_sem] theorem ev_indexA (sz : Nat) (x i : AOpd) : evalOp call s g R (.indexA sz x i) = obind (g x) fun a=>obind (g i) fun b=>iaV R sz a b:=by
 simp only [evalOp,evIndexA]; cases g x with
 | none => rfl
 | some a =>
  cases g i with
  | none => cases a <;> rfl
  | some b =>
   cases a <;> cases b <;> simp only [obind,iaV]
   ·rename_i sz' es k n; simp only [grd]; split <;> (try rfl); cases es[n.toNat]? <;> rfl
   ·rename_i id off len k n; cases R id with
    | none => rfl
    | some r => cases r <;> rfl
   ·rename_i id len k n; cases R id with
    | none => rfl
    | some r => cases r <;> rfl
   ·rename_i id p len k n; cases R id with
    | none => rfl
    | some r => cases r <;> rfl
def ipV (len sz : Nat) : AV → AV → Option Eff
 | .ptr id idx off,.int _ n => grd (0≤n∧n < len) (some ⟨.ptr id idx (off + n.toNat * sz),[],[]⟩)
 | .iptr e off,.int _ n => grd (0≤n∧n < len) (some ⟨.iptr e (off + n.toNat * sz),[],[]⟩)
 | _,_ => none
def ixV (len sz : Nat) (ag : Bool) : AV → AV → Option Eff
 | .agg cs,.int _ n => grd (0≤n∧n < len) (obind (part ag (n.toNat * sz) sz cs) fun v=>some ⟨v,[],[]⟩)
 | _,_ => none
attribute [go_sem] ipV.eq_1 ipV.eq_2 ixV.eq_1
@[go_sem] theorem ev_indexP (len sz : Nat) (x i : AOpd) : evalOp call s g R (.indexP len sz x i) = obind (g x) fun a=>obind (g i) fun b=>ipV len sz a b:=by
 simp only [evalOp]; cases g x with
 | none => rfl
 | some a =>
  cases g i with
  | none => cases a <;> rfl
  | some b => cases a <;> cases b <;> rfl
@[go_sem] theorem ev_index (len sz : Nat) (ag : Bool) (x i : AOpd) : evalOp call s g R (.index len sz ag x i) = obind (g x) fun a=>obind (g i) fun b=>ixV len sz ag a b:=by
 simp only [evalOp]; cases g x with
 | none => rfl
 | some a =>
  cases g i with
  | none => cases a <;> rfl
  | some b =>
   cases a <;> cases b <;> simp only [obind,ixV]
   rename_i cs k n; simp only [grd]; split <;> (try rfl); cases part ag (n.toNat * sz) sz cs <;> rfl
def exV (i : Nat) : AV → Option Eff
 | .tuple vs => obind vs[i]? fun v=>some ⟨v,[],[]⟩
 | _ => none
def lenV : AV → Option Eff
 | .slice _ _ n => some ⟨.int .i64 n,[],[]⟩
 | .list _ es => some ⟨.int .i64 es.length,[],[]⟩
 | .tabS _ n => some ⟨.int .i64 n,[],[]⟩
 | .inS _ _ n => some ⟨.int .i64 n,[],[]⟩
 | v => if v.isNil = true then some ⟨.int .i64 0,[],[]⟩ else none
attribute [go_sem] exV.eq_1 lenV.eq_1 lenV.eq_2 lenV.eq_3 lenV.eq_4
@[go_sem] theorem lenV_nil (sz : Nat) : lenV (.nilS sz) = some ⟨.int .i64 0,[],[]⟩:=rfl
@[go_sem] theorem lenV_nilC : lenV (.const (.slice none 0 0)) = some ⟨.int .i64 0,[],[]⟩:=rfl
@[go_sem] theorem ev_extract (x : AOpd) (i : Nat) : evalOp call s g R (.extract x i) = obind (g x) (exV i):=by
 simp only [evalOp]; cases g x with
 | none => rfl
 | some v =>
  cases v <;> simp only [obind,exV]
  rename_i vs; cases vs[i]? <;> rfl
@[go_sem] theorem ev_len (x : AOpd) : evalOp call s g R (.len x) = obind (g x) lenV:=by
 simp only [evalOp]; cases g x with
 | none => rfl
 | some v => cases v <;> rfl
def i64V : AV → Option Int
 | .int .i64 n => some n
 | _ => none
@[go_sem] theorem i64V_int (n : Int) : i64V (.int .i64 n) = some n:=rfl
@[go_sem] theorem i64_of (x : AOpd) : i64Of g x = obind (g x) i64V:=by
 simp only [i64Of]; cases g x with
 | none => rfl
 | some v =>
  cases v <;> try rfl
  rename_i k n; cases k <;> rfl
def mmV (isMax : Bool) : List Int → Option Eff
 | n :: ns => some ⟨.int .i64 (ns.foldl (maxOf isMax) n),[],[]⟩
 | [] => none
attribute [go_sem] mmV.eq_1
@[go_sem] theorem ev_minmax (isMax : Bool) (xs : List AOpd) : evalOp call s g R (.minmax isMax xs) = obind (mapO (i64Of g) xs) (mmV isMax):=by
 simp only [evalOp]; cases mapO (i64Of g) xs with
 | none => rfl
 | some l => cases l <;> rfl
@[go_sem] theorem max_of (a b : Int) : maxOf true a b = max a b:=by simp only [maxOf,if_true]; split <;> omega
@[go_sem] theorem min_of (a b : Int) : maxOf false a b = min a b:=by simp only [maxOf]; simp only [Bool.false_eq_true,if_false]; split <;> omega
def elR (sz id off len : Nat) : Row → Option (List AV × List Nat)
 | .arr sz' es => grd (sz' = sz∧off + len≤es.length) (some ((es.drop off).take len,[id]))
 | _ => none
attribute [go_sem] elR.eq_1
@[go_sem] theorem el_nil (sz z : Nat) : elemsOf R sz (.nilS z) = some ([],[]):=rfl
@[go_sem] theorem el_list (sz : Nat) (es : List AV) : elemsOf R sz (.list sz es) = some (es,[]):=by simp [elemsOf]
@[go_sem] theorem el_slice (sz id off len : Nat) : elemsOf R sz (.slice id off len) = obind (R id) (elR sz id off len):=by
 simp only [elemsOf]; cases R id with
 | none => rfl
 | some r => cases r <;> rfl
def apR (s sz id off len : Nat) (xs : List AV) (ids : List Nat) : Row → Option Eff
 | .arr sz' es => if sz' = sz∧off = 0 then
   if len = es.length then
    if len + xs.length≤34359738368 then some ⟨.slice s 0 (len + xs.length),[(s,some (.arr sz (es ++ xs))),(id,none)],id :: ids⟩ else none
   else if len + xs.length≤es.length then some ⟨.slice id 0 (len + xs.length),[(id,some (.arr sz (es.take len ++ xs ++ es.drop (len + xs.length))))],id :: ids⟩ else none
  else none
 | _ => none
@[go_sem] theorem apR_whole (s sz id len : Nat) (es xs : List AV) (ids : List Nat) (h : len = es.length) : apR s sz id 0 len xs ids (.arr sz es) = grd (len + xs.length≤34359738368) (some ⟨.slice s 0 (len + xs.length),[(s,some (.arr sz (es ++ xs))),(id,none)],id :: ids⟩):=by
 simp [apR,h,grd]
def apV (s : Nat) (R : Nat → Option Row) (sz : Nat) (xs : List AV) (ids : List Nat) : AV → Option Eff
 | .nilS _ => grd (xs.length≤34359738368) (some ⟨.slice s 0 xs.length,[(s,some (.arr sz xs))],ids⟩)
 | .slice id off len => obind (R id) (apR s sz id off len xs ids)
 | .clip sz' es => grd (sz' = sz∧xs.length ≠ 0∧es.length + xs.length≤34359738368) (some ⟨.slice s 0 (es.length + xs.length),[(s,some (.arr sz (es ++ xs)))],ids⟩)
 | _ => none
attribute [go_sem] apV.eq_1 apV.eq_2 apV.eq_3
@[go_sem] theorem unNil_nilS (sz : Nat) : unNil (.nilS sz) = .nilS sz:=rfl
@[go_sem] theorem unNil_slice (a b c : Nat) : unNil (.slice a b c) = .slice a b c:=rfl
@[go_sem] theorem unNil_clip (sz : Nat) (es : List AV) : unNil (.clip sz es) = .clip sz es:=rfl
@[go_sem] theorem unNil_nil : unNil (.const (.slice none 0 0)) = .nilS 0:=rfl
@[go_sem] theorem str_one (b : ByteArray) : (Value.string b).oneCell' = true:=rfl
@[go_sem] theorem ev_append (sz : Nat) (d x : AOpd) : evalOp call s g R (.append sz d x) = obind (g d) fun dv=>obind (g x) fun xv=>obind (elemsOf R sz xv) fun q=>apV s R sz q.1 q.2 (unNil dv):=by
 simp only [evalOp,evAppend]; cases g d with
 | none => rfl
 | some dv =>
  cases g x with
  | none => rfl
  | some xv =>
   simp only [obind];generalize unNil dv = dv;cases elemsOf R sz xv with
   | none => rfl
   | some q =>
    cases dv <;> try rfl
    rename_i id off len;simp only [apV,obind];cases R id with
    | none => rfl
    | some r => cases r <;> rfl
def cpR (sz id off len : Nat) (xs : List AV) (ids : List Nat) : Row → Option Eff
 | .arr sz' es => if sz' = sz∧off + len≤es.length then
   if min xs.length len = 0 then some ⟨.int .i64 0,[],id :: ids⟩
   else some ⟨.int .i64 (min xs.length len : Nat),[(id,some (.arr sz (es.take off ++ xs.take (min xs.length len) ++ es.drop (off + min xs.length len))))],id :: ids⟩
  else none
 | _ => none
@[go_sem] theorem cpR_at (sz id off len : Nat) (es xs : List AV) (ids : List Nat) (h : 0 < min xs.length len) : cpR sz id off len xs ids (.arr sz es) = grd (off + len≤es.length) (some ⟨.int .i64 (min xs.length len : Nat),[(id,some (.arr sz (es.take off ++ xs.take (min xs.length len) ++ es.drop (off + min xs.length len))))],id :: ids⟩):=by
 have h' : ¬ min xs.length len = 0:=by omega
 simp [cpR,h',grd]
@[go_sem] theorem cpR_zero (sz id off len : Nat) (es xs : List AV) (ids : List Nat) (h : min xs.length len = 0) : cpR sz id off len xs ids (.arr sz es) = grd (off + len≤es.length) (some ⟨.int .i64 0,[],id :: ids⟩):=by
 simp [cpR,h,grd]
def cpV (R : Nat → Option Row) (sz : Nat) (xs : List AV) (ids : List Nat) : AV → Option Eff
 | .slice id off len => obind (R id) (cpR sz id off len xs ids)
 | _ => none
attribute [go_sem] cpV.eq_1
@[go_sem] theorem ev_copyB (sz : Nat) (d x : AOpd) : evalOp call s g R (.copyB sz d x) = obind (g d) fun dv=>obind (g x) fun xv=>obind (elemsOf R sz xv) fun q=>cpV R sz q.1 q.2 dv:=by
 simp only [evalOp,evCopy]; cases g d with
 | none => rfl
 | some dv =>
  cases g x with
  | none => cases dv <;> rfl
  | some xv =>
   simp only [obind];cases dv <;> simp only [cpV] <;> cases elemsOf R sz xv <;> try rfl
   rename_i id off len q;simp only [obind];cases R id with
   | none => rfl
   | some r => cases r <;> rfl
def isNilV (neg : Bool) : AV → Option Eff
 | .slice _ _ (_ + 1) => some ⟨.bool neg,[],[]⟩
 | .list _ (_ :: _) => some ⟨.bool neg,[],[]⟩
 | .const (.slice none 0 0) => some ⟨.bool (!neg),[],[]⟩
 | _ => none
@[go_sem] theorem isNilV_nilC (neg : Bool) : isNilV neg (.const (.slice none 0 0)) = some ⟨.bool (!neg),[],[]⟩:=rfl
@[go_sem] theorem isNilV_slice (neg : Bool) (a b c : Nat) (h : 0 < c) : isNilV neg (.slice a b c) = some ⟨.bool neg,[],[]⟩:=by cases c with
 | zero => omega
 | succ c => rfl
@[go_sem] theorem ev_isNil (neg : Bool) (x : AOpd) : evalOp call s g R (.isNil neg x) = obind (g x) (isNilV neg):=by
 simp only [evalOp]; cases g x with
 | none => rfl
 | some v =>
  cases v <;> try rfl
  ·rename_i u
   cases u <;> try rfl
   rename_i b l c;cases b <;> cases l <;> cases c <;> rfl
  ·rename_i sz es; cases es <;> rfl
  ·rename_i a b c; cases c <;> rfl
def callR (s : Nat) (R : Nat → Option Row) (l : Lent) (q : AV × List AV) : Option Eff :=
 obind (backs R (imRes s q.1).2.2 l.out q.2) fun p=>grd (p.2≤s + siteWidth) (some ⟨(imRes s q.1).1,rowsWr (imRes s q.1).2.1 ++ p.1 ++ gone (l.mv.filter fun i=>!l.out.contains i) ++
  (if (q.1.fresh && q.2.all AV.freshOut) = true then [] else gone l.fz),l.mv ++ l.fz⟩)
def callL (call : CallF) (s : Nat) (R : Nat → Option Row) (bor : List Nat) (f : Nat) (l : Lent) : Option Eff:=grdB (nodup l.mv && disj l.mv l.fz) (obind (call f l.vs) fun q=>callR s R l (stillB (bor.contains 1000) q.1,q.2))
def callV (call : CallF) (s : Nat) (R : Nat → Option Row) (bor : List Nat) (vs : List AV) : AV → Option Eff
 | .func f cap => obind (lendArgs R bor 0 (vs ++ cap)) (callL call s R bor f)
 | .meth f b => obind (lendArgs R bor 0 (b :: vs)) (callL call s R bor f)
 | .yieldT q => evYield s R q vs
 | _ => none
@[go_sem] theorem stillB_false (v : AV) : stillB false v = v:=id rfl
@[go_sem] theorem stillB_true (v : AV) : stillB true v = v.still:=id rfl
attribute [go_sem] AV.still.eq_1 AV.still2.eq_1 AV.still1.eq_1
@[go_sem] theorem still_agg (cs : List AV) : AV.still (.agg cs) = .agg (cs.map AV.still1):=id rfl
@[go_sem] theorem still_own (sz : Nat) (es : List AV) : AV.still (.own sz es) = .list sz es:=id rfl
@[go_sem] theorem still1_int (k : IntKind) (n : Int) : AV.still1 (.int k n) = .int k n:=id rfl
@[go_sem] theorem still1_bool (b : Bool) : AV.still1 (.bool b) = .bool b:=id rfl
@[go_sem] theorem still1_list (sz : Nat) (es : List AV) : AV.still1 (.list sz es) = .list sz es:=id rfl
@[go_sem] theorem still2_int (k : IntKind) (n : Int) : AV.still2 (.int k n) = .int k n:=id rfl
@[go_sem] theorem still2_bool (b : Bool) : AV.still2 (.bool b) = .bool b:=id rfl
@[go_sem] theorem still2_own (sz : Nat) (es : List AV) : AV.still2 (.own sz es) = .list sz es:=id rfl
attribute [go_sem] callR.eq_1 callL.eq_1 callV.eq_1 callV.eq_2 callV.eq_3
theorem callF_eq (f : Nat) (xs : List AV) (bor : List Nat) : evCallF call s R bor f xs = obind (lendArgs R bor 0 xs) (callL call s R bor f):=by
 unfold evCallF;cases lendArgs R bor 0 xs with
 | none => rfl
 | some l =>
  simp only [obind,callL,grdB];split
  ·cases call f l.vs with
   | none => rfl
   | some q =>
    simp only [obind,callR];cases backs R (imRes s (stillB (bor.contains 1000) q.1)).2.2 l.out q.2 with
    | none => rfl
    | some p => rfl
  ·rfl
@[go_sem] theorem ev_call (f : AOpd) (args : List AOpd) (bor : List Nat) : evalOp call s g R (.call f args bor) = obind (g f) fun fv=>obind (mapO g args) fun vs=>callV call s R bor vs fv:=by
 simp only [evalOp,evCall]; cases g f with
 | none => rfl
 | some fv =>
  cases mapO g args with
  | none => cases fv <;> rfl
  | some vs =>
   cases fv <;> try rfl
   ·exact callF_eq ..
   ·exact callF_eq ..
@[go_sem] theorem lendArgs_nil (bor : List Nat) (i : Nat) : lendArgs R bor i [] = some ⟨[],[],[],[]⟩:=rfl
@[go_sem] theorem lendArgs_cons (bor : List Nat) (i : Nat) (v : AV) (r : List AV) : lendArgs R bor i (v :: r) = obind (passArg R bor i v) fun a=>obind (lendArgs R bor (i + 1) r) fun b=>some ⟨a.vs ++ b.vs,a.mv ++ b.mv,a.fz ++ b.fz,a.out ++ b.out⟩:=by
 simp only [lendArgs]; cases passArg R bor i v with
 | none => rfl
 | some a => simp only [obind]; cases lendArgs R bor (i + 1) r <;> rfl
def passB (R : Nat → Option Row) (bor : List Nat) (i : Nat) (v : AV) : Bool → Option Lent
 | true => giveArg R v
 | false => lendArg R (bor.contains i && !v.emptySl) v
theorem passB_congr {bor : List Nat} {i : Nat} {v : AV} {b b' : Bool} (h : b = b') : passB R bor i v b = passB R bor i v b':=by rw [h]
attribute [congr] passB_congr
@[go_sem ↓,go_sem] theorem passB_true (bor : List Nat) (i : Nat) (v : AV) : passB R bor i v true = giveArg R v:=rfl
@[go_sem ↓,go_sem] theorem passB_false (bor : List Nat) (i : Nat) (v : AV) : passB R bor i v false = lendArg R (bor.contains i && !v.emptySl) v:=rfl
@[go_sem] theorem emptySl_ptr (a b c : Nat) : AV.emptySl (.ptr a b c) = false:=rfl
@[go_sem] theorem emptySl_mapp (a : Nat) : AV.emptySl (.mapp a) = false:=rfl
@[go_sem] theorem emptySl_yieldT (a : Nat) : AV.emptySl (.yieldT a) = false:=rfl
@[go_sem] theorem emptySl_iptr (a : AV) (b : Nat) : AV.emptySl (.iptr a b) = false:=rfl
@[go_sem] theorem emptySl_zero (a b : Nat) : AV.emptySl (.slice a b 0) = true:=rfl
@[go_sem] theorem emptySl_pos (a b c : Nat) (h : 0 < c) : AV.emptySl (.slice a b c) = false:=by cases c with
 | zero => omega
 | succ c => rfl
@[go_sem] theorem passArg_nil (i : Nat) (v : AV) : passArg R [] i v = lendArg R false v:=rfl
@[go_sem] theorem passArg_cons (i : Nat) (v : AV) (j : Nat) (bor : List Nat) : passArg R (j :: bor) i v = passB R (j :: bor) i v ((j :: bor).contains (i + 100)):=by
 unfold passArg; cases (j :: bor).contains (i + 100) <;> rfl
def giveSl (id len : Nat) : Row → Option Lent
 | .arr sz es => grd (len = es.length) (some ⟨[.own sz es],[id],[],[]⟩)
 | _ => none
attribute [go_sem] giveSl.eq_1
@[go_sem] theorem giveArg_s (id len : Nat) : giveArg R (.slice id 0 len) = obind (R id) (giveSl id len):=by
 simp only [giveArg]; cases R id with
 | none => rfl
 | some r => cases r <;> rfl
def lendF (R : Nat → Option Row) : AV → Option Lent
 | .yieldT q => lendLog R q
 | v => obind (frz R frzDepth v) fun p=>some ⟨[p.1],[],p.2,[]⟩
attribute [go_sem] lendF.eq_1
@[go_sem] theorem lendF_int (k : IntKind) (n : Int) : lendF R (.int k n) = obind (frz R frzDepth (.int k n)) fun p=>some ⟨[p.1],[],p.2,[]⟩:=rfl
@[go_sem] theorem lendF_bool (b : Bool) : lendF R (.bool b) = obind (frz R frzDepth (.bool b)) fun p=>some ⟨[p.1],[],p.2,[]⟩:=rfl
@[go_sem] theorem lendF_any  : lendF R (.any) = obind (frz R frzDepth (.any)) fun p=>some ⟨[p.1],[],p.2,[]⟩:=rfl
@[go_sem] theorem lendF_nilS (sz : Nat) : lendF R (.nilS sz) = obind (frz R frzDepth (.nilS sz)) fun p=>some ⟨[p.1],[],p.2,[]⟩:=rfl
@[go_sem] theorem lendF_const (v : Value) : lendF R (.const v) = obind (frz R frzDepth (.const v)) fun p=>some ⟨[p.1],[],p.2,[]⟩:=rfl
@[go_sem] theorem lendF_list (sz : Nat) (es : List AV) : lendF R (.list sz es) = obind (frz R frzDepth (.list sz es)) fun p=>some ⟨[p.1],[],p.2,[]⟩:=rfl
@[go_sem] theorem lendF_iptr (e : AV) (o : Nat) : lendF R (.iptr e o) = obind (frz R frzDepth (.iptr e o)) fun p=>some ⟨[p.1],[],p.2,[]⟩:=rfl
@[go_sem] theorem lendF_mapI (k0 : IntKind) (ks : List Int) (vs : List AV) : lendF R (.mapI k0 ks vs) = obind (frz R frzDepth (.mapI k0 ks vs)) fun p=>some ⟨[p.1],[],p.2,[]⟩:=rfl
@[go_sem] theorem lendF_ptr (a b c : Nat) : lendF R (.ptr a b c) = obind (frz R frzDepth (.ptr a b c)) fun p=>some ⟨[p.1],[],p.2,[]⟩:=rfl
@[go_sem] theorem lendF_slice (a b c : Nat) : lendF R (.slice a b c) = obind (frz R frzDepth (.slice a b c)) fun p=>some ⟨[p.1],[],p.2,[]⟩:=rfl
@[go_sem] theorem lendF_mapp (a : Nat) : lendF R (.mapp a) = obind (frz R frzDepth (.mapp a)) fun p=>some ⟨[p.1],[],p.2,[]⟩:=rfl
@[go_sem] theorem lendF_itT (a : Nat) : lendF R (.itT a) = obind (frz R frzDepth (.itT a)) fun p=>some ⟨[p.1],[],p.2,[]⟩:=rfl
@[go_sem] theorem lendF_agg (cs : List AV) : lendF R (.agg cs) = obind (frz R frzDepth (.agg cs)) fun p=>some ⟨[p.1],[],p.2,[]⟩:=rfl
@[go_sem] theorem lendF_func (f : Nat) (cs : List AV) : lendF R (.func f cs) = obind (frz R frzDepth (.func f cs)) fun p=>some ⟨[p.1],[],p.2,[]⟩:=rfl
@[go_sem] theorem lendF_meth (f : Nat) (b : AV) : lendF R (.meth f b) = obind (frz R frzDepth (.meth f b)) fun p=>some ⟨[p.1],[],p.2,[]⟩:=rfl
@[go_sem] theorem lendArg_f (v : AV) : lendArg R false v = lendF R v:=by
 cases v <;> simp only [lendArg,lendF,Bool.false_eq_true,if_false] <;> first | rfl | (rename_i a; cases frz R frzDepth _ <;> rfl) | (cases frz R frzDepth _ <;> rfl)
def lendPt (R : Nat → Option Row) (id : Nat) : Row → Option Lent
 | .box cs => obind (exL (exCell R) cs) fun q=>some ⟨[.bor q.1],id :: q.2.1,q.2.2,[id]⟩
 | _ => none
def lendSl (id len : Nat) : Row → Option Lent
 | .arr sz es => grd (len = es.length) (some ⟨[.borS sz es],[id],[],[id]⟩)
 | _ => none
attribute [go_sem] lendPt.eq_1 lendSl.eq_1
@[go_sem] theorem lendArg_p (id : Nat) : lendArg R true (.ptr id 0 0) = obind (R id) (lendPt R id):=by
 simp only [lendArg,if_true]; cases R id with
 | none => rfl
 | some r =>
  cases r <;> try rfl
  rename_i cs; simp only [obind,lendPt]; cases exL (exCell R) cs <;> rfl
@[go_sem] theorem lendArg_s (id len : Nat) : lendArg R true (.slice id 0 len) = obind (R id) (lendSl id len):=by
 simp only [lendArg,if_true]; cases R id with
 | none => rfl
 | some r => cases r <;> rfl
@[go_sem] theorem backs_nil (n : Nat) : backs R n [] [] = some ([],n):=rfl
def backBx (R : Nat → Option Row) (n id : Nat) (cs : List AV) (ids : List Nat) (vs : List AV) : Row → Option (List (Nat × Option Row) × Nat)
 | .box cs0 => grd (cs.length = cs0.length) (obind (backs R (imL imCell n cs).2.2 ids vs) fun q=>some ((id,some (.box (imL imCell n cs).1)) :: (rowsWr (imL imCell n cs).2.1 ++ q.1),q.2))
 | _ => none
def backSl (R : Nat → Option Row) (n id sz : Nat) (es : List AV) (ids : List Nat) (vs : List AV) : Row → Option (List (Nat × Option Row) × Nat)
 | .arr sz0 es0 => grd (sz0 = sz∧es.length = es0.length) (obind (backs R n ids vs) fun q=>some ((id,if es.length = 0 then none else some (.arr sz es)) :: q.1,q.2))
 | _ => none
attribute [go_sem] backBx.eq_1 backSl.eq_1
@[go_sem] theorem backs_box (n id : Nat) (cs : List AV) (ids : List Nat) (vs : List AV) : backs R n (id :: ids) (.bor cs :: vs) = obind (R id) (backBx R n id cs ids vs):=by
 simp only [backs]; cases R id with
 | none => rfl
 | some r =>
  cases r <;> try rfl
  simp only [obind,backBx,grd];split
  ·cases backs R (imL imCell n cs).2.2 ids vs <;> rfl
  ·rfl
def lendMp (id : Nat) (r : Row) : Option Lent:=obind r.asM fun m=>some ⟨[.borM m.1 m.2.1 m.2.2],[id],[],[id]⟩
attribute [go_sem] lendMp.eq_1
@[go_sem] theorem lendArg_m (id : Nat) : lendArg R true (.mapp id) = obind (R id) (lendMp id):=by
 simp only [lendArg,if_true]; cases R id with
 | none => rfl
 | some r => simp only [obind,lendMp]; cases r.asM <;> rfl
def backMp (R : Nat → Option Row) (n id : Nat) (ks : List Bool) (keys : List (List AV)) (vals : List AV) (ids : List Nat) (vs : List AV) (r : Row) : Option (List (Nat × Option Row) × Nat) :=
 obind r.asM fun _=>obind (backs R n ids vs) fun q=>some ((id,some (mapRow ks keys vals)) :: q.1,q.2)
attribute [go_sem] backMp.eq_1
@[go_sem] theorem backs_mp (n id : Nat) (ks : List Bool) (keys : List (List AV)) (vals : List AV) (ids : List Nat) (vs : List AV) : backs R n (id :: ids) (.borM ks keys vals :: vs) = obind (R id) (backMp R n id ks keys vals ids vs):=by
 simp only [backs]; cases R id with
 | none => rfl
 | some r =>
  simp only [Option.bind_some,obind,backMp];cases r.asM with
  | none => rfl
  | some m => simp only; cases backs R n ids vs <;> rfl
@[go_sem] theorem backs_sl (n id sz : Nat) (es : List AV) (ids : List Nat) (vs : List AV) : backs R n (id :: ids) (.borS sz es :: vs) = obind (R id) (backSl R n id sz es ids vs):=by
 simp only [backs]; cases R id with
 | none => rfl
 | some r =>
  cases r <;> try rfl
  simp only [obind,backSl,grd];split
  ·cases backs R n ids vs <;> rfl
  ·rfl
@[go_sem] theorem ev_mkMap (k : IntKind) : evalOp call s g R (.mkMap k) = some ⟨.mapp s,[(s,some (.mp k []))],[]⟩:=rfl
def msR (id : Nat) (kk : IntKind) (n : Int) (v : AV) : Row → Option Eff
 | .mp k0 kv => grd (k0 = kk) (some ⟨.tuple [],[(id,some (.mp k0 (kvSet n v kv)))],[id]⟩)
 | _ => none
def msV (R : Nat → Option Row) (kk : IntKind) (v : AV) : AV → AV → Option Eff
 | .mapp id,.int kk' n => grdB v.mpVal (grd (kk' = kk) (obind (R id) (msR id kk n v)))
 | _,_ => none
attribute [go_sem] msR.eq_1 msV.eq_1
@[go_sem] theorem mpVal_int (k : IntKind) (n : Int) : AV.mpVal (.int k n) = true:=rfl
@[go_sem] theorem mpVal_bool (b : Bool) : AV.mpVal (.bool b) = true:=rfl
@[go_sem] theorem mpVal_agg (cs : List AV) : AV.mpVal (.agg cs) = cs.all AV.plain1:=rfl
@[go_sem] theorem mpVal_func (f : Nat) : AV.mpVal (.func f []) = true:=rfl
@[go_sem] theorem ev_mapSet (kk : IntKind) (m k x : AOpd) : evalOp call s g R (.mapSet kk m k x) = obind (g m) fun a=>obind (g k) fun b=>obind (g x) fun v=>msV R kk v a b:=by
 simp only [evalOp,evMapSet]; cases g m with
 | none => rfl
 | some a =>
  cases g k with
  | none => cases a <;> rfl
  | some b =>
   cases g x with
   | none => cases a <;> cases b <;> rfl
   | some v =>
    cases a <;> cases b <;> try rfl
    rename_i id k n;simp only [obind,msV,grd,grdB];cases v.mpVal
    ·simp
    ·by_cases h : k = kk
     ·simp only [h,and_self,if_true]; cases R id with
      | none => rfl
      | some r => cases r <;> rfl
     ·simp [h]
def mgO (id : Nat) (zero : AV) (ok : Bool) : Option AV → Option Eff
 | some v => some ⟨if ok then .tuple [v,.bool true] else v,[],[id]⟩
 | none => some ⟨if ok then .tuple [zero,.bool false] else zero,[],[id]⟩
def mgR (id : Nat) (kk : IntKind) (zero : AV) (ok : Bool) (n : Int) : Row → Option Eff
 | .mp k0 kv => grd (k0 = kk) (mgO id zero ok (kvGet n kv))
 | _ => none
def mgI (zero : AV) (ok : Bool) : Option AV → Option Eff
 | some v => some (.pure (if ok then .tuple [v,.bool true] else v))
 | none => some (.pure (if ok then .tuple [zero,.bool false] else zero))
def mgV (R : Nat → Option Row) (kk : IntKind) (zero : AV) (ok : Bool) : AV → AV → Option Eff
 | .mapp id,.int kk' n => grd (kk' = kk) (obind (R id) (mgR id kk zero ok n))
 | .mapI k0 keys vals,.int kk' n => grd (kk' = kk∧k0 = kk) (mgI zero ok (kvGet n (keys.zip vals)))
 | .const v,.int kk' _ => grd (kk' = kk∧nilMapV v = true) (mgI zero ok none)
 | _,_ => none
attribute [go_sem] nilMapV.eq_1 mgR.eq_1 mgV.eq_1 mgV.eq_2 mgV.eq_3 mgI.eq_1 mgI.eq_2 mgO.eq_1 mgO.eq_2
@[go_sem] theorem ev_mapGet (kk : IntKind) (zero : AV) (ok : Bool) (m k : AOpd) : evalOp call s g R (.mapGet kk zero ok m k) = obind (g m) fun a=>obind (g k) fun b=>mgV R kk zero ok a b:=by
 simp only [evalOp,evMapGet]; cases g m with
 | none => rfl
 | some a =>
  cases g k with
  | none => cases a <;> rfl
  | some b =>
   cases a <;> cases b <;> try rfl
   ·rename_i id k n
    simp only [obind,mgV,grd];split
    ·cases R id with
     | none => rfl
     | some r =>
      cases r <;> try rfl
      all_goals
       simp only [mgR,grd];split
       ·cases kvGet n _ <;> rfl
       ·rfl
    ·rfl
@[go_sem] theorem strB_mk (l : List UInt8) : strB (.const (.string ⟨l.toArray⟩)) = some l:=by simp [strB]
@[go_sem] theorem ev_strLen (x : AOpd) : evalOp call s g R (.strLen x) = obind (g x) fun v=>obind (strB v) fun l=>some ⟨.int .i64 l.length,[],[]⟩:=by
 simp only [evalOp,evStrLen]; cases g x with
 | none => rfl
 | some v => simp only [obind]; cases strB v <;> rfl
def saV (v : AV) : AV → Option Eff
 | .int _ n => obind (strB v) fun l=>grd (0≤n∧n < l.length) (some ⟨.int .u8 (l.getD n.toNat 0).toNat,[],[]⟩)
 | _ => none
attribute [go_sem] saV.eq_1
@[go_sem] theorem ev_strAt (x i : AOpd) : evalOp call s g R (.strAt x i) = obind (g x) fun v=>obind (g i) fun u=>saV v u:=by
 simp only [evalOp,evStrAt]; cases g x with
 | none => rfl
 | some v =>
  cases g i with
  | none => rfl
  | some u => cases u <;> simp only [obind,saV] <;> cases strB v <;> rfl
@[go_sem] theorem ev_strEq (neg : Bool) (x y : AOpd) : evalOp call s g R (.strEq neg x y) = obind (g x) fun v=>obind (g y) fun u=>obind (strB v) fun l=>obind (strB u) fun m=>some ⟨.bool ((l == m) != neg),[],[]⟩:=by
 simp only [evalOp,evStrEq]; cases g x with
 | none => rfl
 | some v =>
  cases g y with
  | none => rfl
  | some u => simp only [obind]; cases strB v <;> cases strB u <;> rfl
@[go_sem] theorem ev_strId (x : AOpd) : evalOp call s g R (.strId x) = obind (g x) fun v=>obind (strB v) fun l=>some ⟨strA l,[],[]⟩:=by
 simp only [evalOp,evStrId]; cases g x with
 | none => rfl
 | some v => simp only [obind]; cases strB v <;> rfl
@[go_sem] theorem ev_strOf (x : AOpd) : evalOp call s g R (.strOf x) = obind (g x) fun v=>obind (elemsOf R 1 v) fun p=>obind (mapO byteOf p.1) fun l=>some ⟨strA l,[],p.2⟩:=by
 simp only [evalOp,evStrOf]; cases g x with
 | none => rfl
 | some v =>
  simp only [obind]; cases elemsOf R 1 v with
  | none => rfl
  | some p => cases p; simp only; cases mapO byteOf _ <;> rfl
@[go_sem] theorem ev_prim (f : List AV → Option AV) (xs : List AOpd) : evalOp call s g R (.prim f xs) = obind (mapO g xs) fun vs=>obind (f vs) fun v=>some ⟨v,[],[]⟩:=by
 simp only [evalOp]; cases mapO g xs with
 | none => rfl
 | some vs => simp only [obind]; cases f vs <;> rfl
theorem byteOf_bytes (l : List UInt8) : mapO byteOf (l.map fun b=>.int .u8 (b.toNat : Int)) = some l:=by
 induction l with
 | nil => rfl
 | cons b l ih =>
  have h1 : byteOf (.int .u8 (b.toNat : Int)) = some b:=by
   have:=b.toNat_lt;simp only [byteOf];rw [if_pos ⟨by omega,by omega⟩]
   simp
  simp only [List.map_cons,mapO,h1,ih]
def mlR (id : Nat) : Row → Option Eff
 | .mp _ kv => some ⟨.int .i64 kv.length,[],[id]⟩
 | _ => none
def mlV (R : Nat → Option Row) : AV → Option Eff
 | .mapp id => obind (R id) (mlR id)
 | .mapI _ keys vals => some (.pure (.int .i64 (keys.zip vals).length))
 | _ => none
attribute [go_sem] mlR.eq_1 mlV.eq_1 mlV.eq_2
@[go_sem] theorem ev_mapLen (m : AOpd) : evalOp call s g R (.mapLen m) = obind (g m) (mlV R):=by
 simp only [evalOp,evMapLen]; cases g m with
 | none => rfl
 | some a =>
  cases a <;> try rfl
  rename_i id;simp only [obind,mlV];cases R id with
  | none => rfl
  | some r => cases r <;> rfl
def mdR (id : Nat) (kk : IntKind) (n : Int) : Row → Option Eff
 | .mp k0 kv => grd (k0 = kk) (some ⟨.tuple [],[(id,some (.mp k0 (kvDel n kv)))],[id]⟩)
 | _ => none
def mdV (R : Nat → Option Row) (kk : IntKind) : AV → AV → Option Eff
 | .mapp id,.int kk' n => grd (kk' = kk) (obind (R id) (mdR id kk n))
 | _,_ => none
attribute [go_sem] mdR.eq_1 mdV.eq_1 kvDel.eq_1 kvDel.eq_2
@[go_sem] theorem ev_mapDel (kk : IntKind) (m k : AOpd) : evalOp call s g R (.mapDel kk m k) = obind (g m) fun a=>obind (g k) fun b=>mdV R kk a b:=by
 simp only [evalOp,evMapDel]; cases g m with
 | none => rfl
 | some a =>
  cases g k with
  | none => cases a <;> rfl
  | some b =>
   cases a <;> cases b <;> try rfl
   rename_i id k n;simp only [obind,mdV,grd];split
   ·cases R id with
    | none => rfl
    | some r => cases r <;> try rfl
   ·rfl
@[go_sem] theorem ev_mkMapV (k : IntKind) : evalOp call s g R (.mkMapV k) = some ⟨.mapp s,[(s,some (.mpV k []))],[]⟩:=rfl
def setN (id : Nat) (k0 : IntKind) (kv : List (Int × AV)) (n : Int) (v : AV) : Option AV → Option Eff
 | none => some ⟨.tuple [],[(id,some (.mpV k0 (kv ++ [(n,v)])))],[id]⟩
 | some _ => none
def msNR (id : Nat) (kk : IntKind) (n : Int) (v : AV) : Row → Option Eff
 | .mpV k0 kv => grd (k0 = kk) (setN id k0 kv n v (kvGet n kv))
 | _ => none
def msNV (R : Nat → Option Row) (kk : IntKind) (v : AV) : AV → AV → Option Eff
 | .mapp id,.int kk' n => grd (kk' = kk) (obind (R id) (msNR id kk n v))
 | _,_ => none
attribute [go_sem] msNR.eq_1 msNV.eq_1 setN.eq_1
@[go_sem] theorem ev_mapSetV (kk : IntKind) (m k x : AOpd) : evalOp call s g R (.mapSetV kk m k x) = obind (g m) fun a=>obind (g k) fun b=>obind (g x) fun v=>msNV R kk v a b:=by
 simp only [evalOp,evMapSetV]; cases g m with
 | none => rfl
 | some a =>
  cases g k with
  | none => cases a <;> rfl
  | some b =>
   cases g x with
   | none => cases a <;> cases b <;> rfl
   | some v =>
    cases a <;> cases b <;> try rfl
    rename_i id k n;simp only [obind,msNV,grd];split
    ·cases R id with
     | none => rfl
     | some r =>
      cases r <;> rfl
    ·rfl
def riR (s id : Nat) : Row → Option Eff
 | .mpV k kv => grd (id ≠ s) (some ⟨.itT s,[(s,some (.iter (kv.map fun p=>(.int k p.1,p.2)) none)),(id,none)],[id]⟩)
 | .mpS _ keys vals => grd (id ≠ s) (some ⟨.itT s,[(s,some (.iter ((keys.zip vals).map fun p=>(.agg p.1,p.2)) none)),(id,none)],[id]⟩)
 | _ => none
def riV (s : Nat) (R : Nat → Option Row) : AV → Option Eff
 | .mapp id => obind (R id) (riR s id)
 | _ => none
attribute [go_sem] riR.eq_1 riV.eq_1
@[go_sem] theorem kvM_nil (k : IntKind) : ([] : List (Int × AV)).map (fun p=>(AV.int k p.1,p.2)) = []:=rfl
@[go_sem] theorem kvM_cons (k : IntKind) (n : Int) (v : AV) (l : List (Int × AV)) : ((n,v) :: l).map (fun p=>(AV.int k p.1,p.2)) = (AV.int k n,v) :: l.map (fun p=>(AV.int k p.1,p.2)):=rfl
@[go_sem] theorem ev_rangeI (m : AOpd) : evalOp call s g R (.rangeI m) = obind (g m) (riV s R):=by
 simp only [evalOp,evRangeI]; cases g m with
 | none => rfl
 | some a =>
  cases a <;> try rfl
  rename_i id;simp only [obind,riV];cases R id with
  | none => rfl
  | some r =>
   cases r <;> try rfl
   all_goals
    simp only [riR,grd];split <;> rename_i h <;> simp [h]
def enR (id : Nat) : Row → Option Eff
 | .iter _ (some x) => some ⟨.tuple [x.1,x.2],[],[id]⟩
 | _ => none
def enV (R : Nat → Option Row) : AV → Option Eff
 | .itT id => obind (R id) (enR id)
 | _ => none
attribute [go_sem] enR.eq_1 enV.eq_1
@[go_sem] theorem ev_entry (it : AOpd) : evalOp call s g R (.entry it) = obind (g it) (enV R):=by
 simp only [evalOp,evEntry]; cases g it with
 | none => rfl
 | some a =>
  cases a <;> try rfl
  rename_i id;simp only [obind,enV];cases R id with
  | none => rfl
  | some r =>
   cases r <;> try rfl
   rename_i l c;cases c <;> rfl
theorem takeIt_eq (nx more id : Nat) (left : List (AV × AV)) (cur : Option (AV × AV)) (tm : List (Nat × AV)) (rows : List (Nat × Row)) (lent : List (Nat × Option Nat)) (next : Nat) :
  takeIt nx more id left cur ⟨tm,rows,lent,next⟩ = ⟨(more,.bool cur.isSome) :: (nx,.any) :: del more (del nx tm),(id,.iter left cur) :: del id rows,lent,next + 32⟩:=rfl
@[go_sem] theorem ev_mkMapS (ks : List Bool) : evalOp call s g R (.mkMapS ks) = some ⟨.mapp s,[(s,some (.mpS ks [] []))],[]⟩:=rfl
def setO (id : Nat) (ks : List Bool) (keys : List (List AV)) (vals cs : List AV) (v : AV) : Option Nat → Option Eff
 | some i => some ⟨.tuple [],[(id,some (.mpS ks keys (vals.set i v)))],[id]⟩
 | none => some ⟨.tuple [],[(id,some (.mpS ks (keys ++ [cs]) (vals ++ [v])))],[id]⟩
def msSR (id : Nat) (ks : List Bool) (cs : List AV) (v : AV) : Row → Option Eff
 | .mpS k0 keys vals => grd (k0 = ks) (obind (findS ks cs keys 0) (setO id k0 keys vals cs v))
 | _ => none
def msSV (R : Nat → Option Row) (ks : List Bool) (v : AV) : AV → AV → Option Eff
 | .mapp id,.agg cs => grdB v.plain1 (grdB (cs.all AV.plain1) (grd (okKey ks cs = true) (obind (R id) (msSR id ks cs v))))
 | _,_ => none
attribute [go_sem] msSR.eq_1 msSV.eq_1 setO.eq_1 setO.eq_2
@[go_sem] theorem ev_mapSetS (ks : List Bool) (m k x : AOpd) : evalOp call s g R (.mapSetS ks m k x) = obind (g m) fun a=>obind (g k) fun b=>obind (g x) fun v=>msSV R ks v a b:=by
 simp only [evalOp,evMapSetS]; cases g m with
 | none => rfl
 | some a =>
  cases g k with
  | none => cases a <;> rfl
  | some b =>
   cases g x with
   | none => cases a <;> cases b <;> rfl
   | some v =>
    cases a <;> cases b <;> try rfl
    rename_i id cs;simp only [obind,msSV,grd,grdB];cases v.plain1
    ·simp
    ·cases cs.all AV.plain1
     ·simp
     ·by_cases h : okKey ks cs = true
      ·simp only [h,and_self,if_true]; cases R id with
       | none => rfl
       | some r =>
        cases r <;> try rfl
        simp only [msSR,grd];split
        ·rename_i k0 keys vals h0
         subst h0;cases findS k0 cs keys 0 with
         | none => rfl
         | some o => cases o <;> rfl
        ·rfl
      ·simp [h]
def getS (id : Nat) (zero : AV) (ok : Bool) (vals : List AV) : Option Nat → Option Eff
 | some i => obind (vals[i]?) fun v=>some ⟨if ok then .tuple [v,.bool true] else v,[],[id]⟩
 | none => some ⟨if ok then .tuple [zero,.bool false] else zero,[],[id]⟩
def mgSR (id : Nat) (ks : List Bool) (zero : AV) (ok : Bool) (cs : List AV) : Row → Option Eff
 | .mpS k0 keys vals => grd (k0 = ks) (obind (findS ks cs keys 0) (getS id zero ok vals))
 | .mpE k0 keys vals _ _ => mapGetR ks cs zero ok id k0 keys vals
 | _ => none
def mgSV (R : Nat → Option Row) (ks : List Bool) (zero : AV) (ok : Bool) : AV → AV → Option Eff
 | .mapp id,.agg cs => grdB (cs.all AV.plain1) (grd (okKey ks cs = true) (obind (R id) (mgSR id ks zero ok cs)))
 | _,_ => none
attribute [go_sem] mgSR.eq_1 mgSV.eq_1 getS.eq_1 getS.eq_2
@[go_sem] theorem ev_mapGetS (ks : List Bool) (zero : AV) (ok : Bool) (m k : AOpd) : evalOp call s g R (.mapGetS ks zero ok m k) = obind (g m) fun a=>obind (g k) fun b=>mgSV R ks zero ok a b:=by
 simp only [evalOp,evMapGetS]; cases g m with
 | none => rfl
 | some a =>
  cases g k with
  | none => cases a <;> rfl
  | some b =>
   cases a <;> cases b <;> try rfl
   rename_i id cs;simp only [obind,mgSV,grd,grdB];cases cs.all AV.plain1
   ·simp
   ·by_cases h : okKey ks cs = true
    ·simp only [h,and_self,if_true]; cases R id with
     | none => rfl
     | some r =>
      cases r <;> try rfl
      simp only [mgSR,grd,mapGetR];split
      ·rename_i k0 keys vals h0
       subst h0;cases findS k0 cs keys 0 with
       | none => rfl
       | some o =>
        cases o with
        | none => rfl
        | some i => simp only [obind,getS]; cases vals[i]? <;> rfl
      ·rfl
    ·simp [h]
end
section
variable {call : CallF}
@[go_sem] theorem tmF_app {α : Type} (l : List (Nat × α)) (i : Nat) : tmF l i = lk i l:=rfl
def rowsF {α : Type} (l : List (Nat × α)) (i : Nat) : Option α:=lk i l
@[go_sem] theorem rowsF_app {α : Type} (l : List (Nat × α)) (i : Nat) : rowsF l i = lk i l:=rfl
def guardV (b : Bool) (x : Option Eff) : AV → Option Eff
 | .bool c => if c = b then x else some ⟨.tuple [],[],[]⟩
 | .tuple [] => some ⟨.tuple [],[],[]⟩
 | _ => none
theorem guardV_congr {b : Bool} {x : Option Eff} {v v' : AV} (h : v = v') : guardV b x v = guardV b x v':=by rw [h]
attribute [congr] guardV_congr
@[go_sem ↓,go_sem] theorem guardV_tt (x : Option Eff) : guardV true x (.bool true) = x:=rfl
@[go_sem ↓,go_sem] theorem guardV_ff (x : Option Eff) : guardV false x (.bool false) = x:=rfl
@[go_sem ↓,go_sem] theorem guardV_tf (x : Option Eff) : guardV true x (.bool false) = some ⟨.tuple [],[],[]⟩:=rfl
@[go_sem ↓,go_sem] theorem guardV_ft (x : Option Eff) : guardV false x (.bool true) = some ⟨.tuple [],[],[]⟩:=rfl
@[go_sem ↓,go_sem] theorem guardV_no (b : Bool) (x : Option Eff) : guardV b x (.tuple []) = some ⟨.tuple [],[],[]⟩:=rfl
@[go_sem] theorem st_none (s : Nat) (d : Option Nat) (op : AOp) (T : Nat → Option AV) : stepOp call s ⟨d,op,none⟩ T R = evalOp call s (getO T) R op:=rfl
@[go_sem] theorem st_some (s : Nat) (d : Option Nat) (op : AOp) (t : Nat) (b : Bool) (T : Nat → Option AV) : stepOp call s ⟨d,op,some (t,b)⟩ T R = obind (T t) (guardV b (evalOp call s (getO T) R op)):=by
 simp only [stepOp]; cases T t with
 | none => rfl
 | some v =>
  cases v <;> try rfl
  rename_i vs; cases vs <;> rfl
def contOps (call : CallF) (base k : Nat) (os : List AOper) (dst : Option Nat) (tm : List (Nat × AV)) (rows : List (Nat × Row)) (e : Eff) : Option (List (Nat × AV) × List (Nat × Row)) :=
 runOps call base false (k + 1) os [] [] (putT dst e.v tm) (updRows e.wr rows)
attribute [go_sem] contOps.eq_1
theorem runOps_ff (base k : Nat) : ∀ (os : List AOper) (bef bef' : List (List Nat)) (acc acc' : List Foot) (tm : List (Nat × AV)) (rows : List (Nat × Row)),runOps call base false k os bef acc tm rows = runOps call base false k os bef' acc' tm rows
 | [],_,_,_,_,_,_ => rfl
 | o :: os,bef,bef',acc,acc',tm,rows => by
  simp only [runOps,Bool.false_eq_true,if_false];cases stepOp call (base + siteWidth * k) o (fun t=>lk t tm) (fun i=>lk i rows) with
  | none => rfl
  | some e => exact runOps_ff base (k + 1) os bef bef' acc acc' _ _
@[go_sem] theorem run_nil (base : Nat) (draw : Bool) (k : Nat) (bef : List (List Nat)) (acc : List Foot) (tm : List (Nat × AV)) (rows : List (Nat × Row)) : runOps call base draw k [] bef acc tm rows = some (tm,rows):=by
 cases bef <;> rfl
@[go_sem] theorem run_f (base k : Nat) (o : AOper) (os : List AOper) (bef : List (List Nat)) (acc : List Foot) (tm : List (Nat × AV)) (rows : List (Nat × Row)) : runOps call base false k (o :: os) bef acc tm rows =
  obind (stepOp call (base + 32 * k) o (rowsF tm) (rowsF rows)) (contOps call base k os o.dst tm rows):=by
 show _ = obind (stepOp call (base + 32 * k) o (fun t=>lk t tm) (fun i=>lk i rows)) (contOps call base k os o.dst tm rows)
 simp only [runOps,siteWidth,Bool.false_eq_true,if_false];cases stepOp call (base + 32 * k) o (fun t=>lk t tm) (fun i=>lk i rows) with
 | none => rfl
 | some e => exact runOps_ff base (k + 1) os bef [] acc [] _ _
def contT (call : CallF) (base k : Nat) (os : List AOper) (dst : Option Nat) (b : List Nat) (bef : List (List Nat)) (acc : List Foot) (tm : List (Nat × AV)) (rows : List (Nat × Row)) (e : Eff) : Option (List (Nat × AV) × List (Nat × Row)) :=
 grdT (acc.all fun a=>b.contains a.k || a.apart ⟨k,e.rd,e.wr.map (·.1)⟩) (runOps call base true (k + 1) os bef (⟨k,e.rd,e.wr.map (·.1)⟩ :: acc) (putT dst e.v tm) (updRows e.wr rows))
attribute [go_sem] contT.eq_1
@[go_sem] theorem run_t (base k : Nat) (o : AOper) (os : List AOper) (b : List Nat) (bef : List (List Nat)) (acc : List Foot) (tm : List (Nat × AV)) (rows : List (Nat × Row)) : runOps call base true k (o :: os) (b :: bef) acc tm rows =
  obind (stepOp call (base + 32 * k) o (rowsF tm) (rowsF rows)) (contT call base k os o.dst b bef acc tm rows):=by
 show _ = obind (stepOp call (base + 32 * k) o (fun t=>lk t tm) (fun i=>lk i rows)) (contT call base k os o.dst b bef acc tm rows)
 simp only [runOps,siteWidth,if_true];cases stepOp call (base + 32 * k) o (fun t=>lk t tm) (fun i=>lk i rows) with
 | none => rfl
 | some e => rfl
@[go_sem] theorem run_region (ops : List AOper) (draw : Bool) (bef : List (List Nat)) (keep : List Nat) (tm : List (Nat × AV)) (rows : List (Nat × Row)) (lent : List (Nat × Option Nat)) (next : Nat) :
  runRegion call ops draw bef keep ⟨tm,rows,lent,next⟩ = obind (runOps call next draw 0 ops bef [] tm rows) fun q=>some ⟨keepT keep q.1,q.2,lent,next + 32 * ops.length⟩:=by
 simp only [runRegion,siteWidth]; cases runOps call next draw 0 ops bef [] tm rows <;> rfl
def resC (rows : List (Nat × Row)) (n : Nat) (ag : Bool) : AV → Option AV
 | .ptr id 0 0 => obind (lk id rows) fun r=>match r with
  | .box cs => part ag 0 n cs
  | _ => none
 | _ => none
def boxPart (n : Nat) (ag : Bool) : Row → Option AV
 | .box cs => part ag 0 n cs
 | _ => none
@[go_sem] theorem boxPart_box (n : Nat) (ag : Bool) (cs : List AV) : boxPart n ag (.box cs) = part ag 0 n cs:=rfl
@[go_sem] theorem resC_ptr (rows : List (Nat × Row)) (n id : Nat) (ag : Bool) : resC rows n ag (.ptr id 0 0) = obind (lk id rows) (boxPart n ag):=rfl
@[go_sem] theorem resOf_tmp (tm : List (Nat × AV)) (rows : List (Nat × Row)) (t : Nat) : resOf tm rows (.tmp t) = lk t tm:=rfl
@[go_sem] theorem resOf_cell (tm : List (Nat × AV)) (rows : List (Nat × Row)) (t n : Nat) (ag : Bool) : resOf tm rows (.cell t n ag) = obind (lk t tm) (resC rows n ag):=by
 simp only [resOf]; cases lk t tm with
 | none => rfl
 | some v =>
  cases v <;> try rfl
  rename_i id idx off;cases idx <;> cases off <;> try rfl
  simp only [obind,resC];cases lk id rows with
  | none => rfl
  | some r => cases r <;> rfl
def outL (id m : Nat) : Row → Option Ex
 | .log k xs => some ⟨.ylog k xs,[id,m],[]⟩
 | _ => none
attribute [go_sem] outL.eq_1
def outN (rows : List (Nat × Row)) (id : Nat) : Row → Option Ex
 | .num m => obind (lk m rows) (outL id m)
 | .box cs => obind (exL (exCell (rowsF rows)) cs) fun q=>some ⟨.bor q.1,id :: q.2.1,q.2.2⟩
 | .mpS ks keys vals => obind (Row.mpS ks keys vals).asM fun m=>some ⟨.borM m.1 m.2.1 m.2.2,[id],[]⟩
 | .mp k kv => obind (Row.mp k kv).asM fun m=>some ⟨.borM m.1 m.2.1 m.2.2,[id],[]⟩
 | _ => none
def outS (id n : Nat) : Row → Option Ex
 | .arr sz es => grd (es.length = n) (some ⟨.borS sz es,[id],[]⟩)
 | _ => none
attribute [go_sem] outN.eq_1 outN.eq_2 outN.eq_3 outN.eq_4 outS.eq_1
@[go_sem] theorem exOut_none (rows : List (Nat × Row)) (id : Nat) : exOut rows (id,none) = obind (lk id rows) (outN rows id):=by
 simp only [exOut]; cases lk id rows with
 | none => rfl
 | some r =>
  cases r <;> try rfl
  ·rename_i cs; simp only; show _ = obind (exL (exCell fun i=>lk i rows) cs) _; cases exL (exCell fun i=>lk i rows) cs <;> rfl
  ·rename_i k kv
   simp only [obind,outN];cases (Row.mp k kv).asM <;> rfl
  ·rename_i m
   simp only [obind,outN];cases lk m rows with
   | none => rfl
   | some q => cases q <;> rfl
  ·rename_i ks keys vals
   simp only [obind,outN];cases (Row.mpS ks keys vals).asM <;> rfl
@[go_sem] theorem exOut_some (rows : List (Nat × Row)) (id n : Nat) : exOut rows (id,some n) = obind (lk id rows) (outS id n):=by
 simp only [exOut]; cases lk id rows with
 | none => rfl
 | some r => cases r <;> rfl
@[go_sem] theorem exOuts_nil (f : Nat × Option Nat → Option Ex) : exOuts f [] = some ([],[],[]):=rfl
@[go_sem] theorem exOuts_cons (f : Nat × Option Nat → Option Ex) (i : Nat × Option Nat) (r : List (Nat × Option Nat)) : exOuts f (i :: r) = obind (f i) fun x=>obind (exOuts f r) fun q=>some (x.v :: q.1,x.mv ++ q.2.1,x.fz ++ q.2.2):=by
 simp only [exOuts]; cases f i with
 | none => rfl
 | some x => cases exOuts f r <;> rfl
@[go_sem] theorem tupled_one (v : AV) : tupled [v] = v:=rfl
@[go_sem] theorem tupled_nil : tupled [] = .tuple []:=rfl
@[go_sem] theorem tupled_two (v u : AV) (l : List AV) : tupled (v :: u :: l) = .tuple (v :: u :: l):=rfl
theorem fin_eq (fn : AFn) (tm : List (Nat × AV)) (rows : List (Nat × Row)) (lent : List (Nat × Option Nat)) (next : Nat) : finish fn ⟨tm,rows,lent,next⟩ =
  obind (mapO (resOf tm rows) fn.results) fun vs=>obind (exRes (fun i=>lk i rows) (tupled vs)) fun x=>obind (exOuts (exOut rows) lent) fun q=>grdB (nodup (x.mv ++ q.2.1) && disj (x.mv ++ q.2.1) (x.fz ++ q.2.2)) (some (x.v,q.1)):=by
 simp only [finish]; cases mapO (resOf tm rows) fn.results with
 | none => rfl
 | some vs =>
  simp only [obind];cases exRes (fun i=>lk i rows) (tupled vs) with
  | none => rfl
  | some x =>
   simp only;cases exOuts (exOut rows) lent <;> rfl
end
theorem norm_eq (keep : List Nat) (tm : List (Nat × AV)) (rows : List (Nat × Row)) (lent : List (Nat × Option Nat)) (next : Nat) : norm keep ⟨tm,rows,lent,next⟩ =
  obind (some (nmTm (keepT keep tm) ⟨lent.map fun p=>(p.1,p.1),[]⟩)) fun x=>obind (some (nmRows rows x.2.ren x.2)) fun y=>obind (some (nmArrs rows (y.2.ren.drop x.2.ren.length))) fun more =>
   grdB (nodup (y.2.ren.map (·.2) ++ y.2.virt.map (·.1)) && (y.2.ren.map (·.2) ++ y.2.virt.map (·.1)).all (· < 10000000) && y.1.all fun p=>p.2.scalars) (some ⟨x.1,sortRows (y.1 ++ more ++ y.2.virt.map (fun p=>(p.1,.arr p.2 []))),lent,10000000⟩):=rfl
@[go_sem] theorem insRow_nil (k : Nat) (r : Row) : insRow k r [] = [(k,r)]:=rfl
@[go_sem] theorem insRow_cons (k : Nat) (r : Row) (j : Nat) (s : Row) (l : List (Nat × Row)) : insRow k r ((j,s) :: l) = if k≤j then (k,r) :: (j,s) :: l else (j,s) :: insRow k r l:=id rfl
@[go_sem] theorem sortRows_nil : sortRows [] = []:=rfl
@[go_sem] theorem sortRows_cons (k : Nat) (r : Row) (l : List (Nat × Row)) : sortRows ((k,r) :: l) = insRow k r (sortRows l):=id rfl
def nmRow (rows : List (Nat × Row)) (k : Nat) (l : List (Nat × Nat)) (r : Ren) : Option Row → List (Nat × Row) × Ren
 | some (.iter left _) => ((k,.iter (left.map fun p=>(p.1,renV r p.2)) none) :: (nmRows rows l r).1,(nmRows rows l r).2)
 | some (.mpV _ _) => nmRows rows l r
 | some (.mpE ..) => nmRows rows l r
 | some (.mpS ks keys vals) => ((k,rowS ks keys vals) :: (nmRows rows l r).1,(nmRows rows l r).2)
 | some (.num m) => ((k,.num (nmNum (canon2 k 0) m r).1) :: (nmRows rows l (nmNum (canon2 k 0) m r).2).1,(nmRows rows l (nmNum (canon2 k 0) m r).2).2)
 | some (.box cs) => ((k,.box (nmCells (canon2 k) 0 cs r).1) :: (nmRows rows l (nmCells (canon2 k) 0 cs r).2).1,(nmRows rows l (nmCells (canon2 k) 0 cs r).2).2)
 | some row => ((k,row) :: (nmRows rows l r).1,(nmRows rows l r).2)
 | none => nmRows rows l r
theorem nmRow_congr {rows : List (Nat × Row)} {k : Nat} {l : List (Nat × Nat)} {r : Ren} {o o' : Option Row} (h : o = o') : nmRow rows k l r o = nmRow rows k l r o':=by rw [h]
attribute [congr] nmRow_congr
@[go_sem ↓,go_sem] theorem nmRow_box (rows : List (Nat × Row)) (k : Nat) (l : List (Nat × Nat)) (r : Ren) (cs : List AV) : nmRow rows k l r (some (.box cs)) = ((k,.box (nmCells (canon2 k) 0 cs r).1) :: (nmRows rows l (nmCells (canon2 k) 0 cs r).2).1,(nmRows rows l (nmCells (canon2 k) 0 cs r).2).2):=rfl
@[go_sem ↓,go_sem] theorem nmRow_arr (rows : List (Nat × Row)) (k : Nat) (l : List (Nat × Nat)) (r : Ren) (sz : Nat) (es : List AV) : nmRow rows k l r (some (.arr sz es)) = ((k,.arr sz es) :: (nmRows rows l r).1,(nmRows rows l r).2):=rfl
@[go_sem ↓,go_sem] theorem nmRow_mp (rows : List (Nat × Row)) (k : Nat) (l : List (Nat × Nat)) (r : Ren) (q : IntKind) (es : List (Int × AV)) : nmRow rows k l r (some (.mp q es)) = ((k,.mp q es) :: (nmRows rows l r).1,(nmRows rows l r).2):=rfl
@[go_sem ↓,go_sem] theorem nmRow_mpS (rows : List (Nat × Row)) (k : Nat) (l : List (Nat × Nat)) (r : Ren) (ks : List Bool) (keys : List (List AV)) (vals : List AV) : nmRow rows k l r (some (.mpS ks keys vals)) = ((k,rowS ks keys vals) :: (nmRows rows l r).1,(nmRows rows l r).2):=rfl
@[go_sem ↓,go_sem] theorem nmRow_iter (rows : List (Nat × Row)) (k : Nat) (l : List (Nat × Nat)) (r : Ren) (left : List (AV × AV)) (c : Option (AV × AV)) : nmRow rows k l r (some (.iter left c)) = ((k,.iter (left.map fun p=>(p.1,renV r p.2)) none) :: (nmRows rows l r).1,(nmRows rows l r).2):=rfl
@[go_sem ↓,go_sem] theorem nmRow_mpV (rows : List (Nat × Row)) (k : Nat) (l : List (Nat × Nat)) (r : Ren) (q : IntKind) (kv : List (Int × AV)) : nmRow rows k l r (some (.mpV q kv)) = nmRows rows l r:=rfl
@[go_sem] theorem renL_nil (r : Ren) : ([] : List (AV × AV)).map (fun p=>(p.1,renV r p.2)) = []:=rfl
@[go_sem] theorem renL_cons (r : Ren) (n : AV) (v : AV) (l : List (AV × AV)) : ((n,v) :: l).map (fun p=>(p.1,renV r p.2)) = (n,renV r v) :: l.map (fun p=>(p.1,renV r p.2)):=rfl
@[go_sem] theorem renV_agg (r : Ren) (cs : List AV) : renV r (.agg cs) = .agg (cs.map (renV1 r)):=rfl
@[go_sem] theorem renV_ptr (r : Ren) (a b c : Nat) : renV r (.ptr a b c) = renV1 r (.ptr a b c):=rfl
@[go_sem] theorem renC_nil (r : Ren) : ([] : List AV).map (renV1 r) = []:=rfl
@[go_sem] theorem renC_cons (r : Ren) (v : AV) (l : List AV) : (v :: l).map (renV1 r) = renV1 r v :: l.map (renV1 r):=rfl
def renO (idx off : Nat) : Option Nat → AV
 | some k => .ptr k idx off
 | none => .any
@[go_sem] theorem renO_some (idx off k : Nat) : renO idx off (some k) = .ptr k idx off:=rfl
@[go_sem] theorem renV1_ptr (r : Ren) (id idx off : Nat) : renV1 r (.ptr id idx off) = renO idx off (lk id r.ren):=by
 simp only [renV1]; cases lk id r.ren <;> rfl
@[go_sem] theorem renV1_int (r : Ren) (k : IntKind) (n : Int) : renV1 r (.int k n) = .int k n:=rfl
@[go_sem] theorem renV1_bool (r : Ren) (b : Bool) : renV1 r (.bool b) = .bool b:=rfl
@[go_sem ↓,go_sem] theorem nmRow_num (rows : List (Nat × Row)) (k : Nat) (l : List (Nat × Nat)) (r : Ren) (m : Nat) : nmRow rows k l r (some (.num m)) = ((k,.num (nmNum (canon2 k 0) m r).1) :: (nmRows rows l (nmNum (canon2 k 0) m r).2).1,(nmRows rows l (nmNum (canon2 k 0) m r).2).2):=rfl
@[go_sem ↓,go_sem] theorem nmRow_log (rows : List (Nat × Row)) (k : Nat) (l : List (Nat × Nat)) (r : Ren) (q : Option Nat) (xs : List (List AV)) : nmRow rows k l r (some (.log q xs)) = ((k,.log q xs) :: (nmRows rows l r).1,(nmRows rows l r).2):=rfl
@[go_sem ↓,go_sem] theorem nmRow_none (rows : List (Nat × Row)) (k : Nat) (l : List (Nat × Nat)) (r : Ren) : nmRow rows k l r none = nmRows rows l r:=rfl
@[go_sem] theorem nmRows_nil (rows : List (Nat × Row)) (r : Ren) : nmRows rows [] r = ([],r):=rfl
@[go_sem] theorem nmRows_cons (rows : List (Nat × Row)) (id k : Nat) (l : List (Nat × Nat)) (r : Ren) : nmRows rows ((id,k) :: l) r = nmRow rows k l r (lk id rows):=by
 simp only [nmRows]; cases lk id rows with
 | none => rfl
 | some row => cases row <;> rfl
def nmArr (rows : List (Nat × Row)) (k : Nat) (l : List (Nat × Nat)) : Option Row → List (Nat × Row)
 | some (.arr sz es) => (k,.arr sz es) :: nmArrs rows l
 | some (.mp q kv) => (k,.mp q kv) :: nmArrs rows l
 | some (.mpS ks keys vals) => (k,.mpS ks keys vals) :: nmArrs rows l
 | some (.log q xs) => (k,.log q xs) :: nmArrs rows l
 | some (.tab sz es) => (k,.tab sz es) :: nmArrs rows l
 | _ => nmArrs rows l
theorem nmArr_congr {rows : List (Nat × Row)} {k : Nat} {l : List (Nat × Nat)} {o o' : Option Row} (h : o = o') : nmArr rows k l o = nmArr rows k l o':=by rw [h]
attribute [congr] nmArr_congr
@[go_sem ↓,go_sem] theorem nmArr_arr (rows : List (Nat × Row)) (k : Nat) (l : List (Nat × Nat)) (sz : Nat) (es : List AV) : nmArr rows k l (some (.arr sz es)) = (k,.arr sz es) :: nmArrs rows l:=rfl
@[go_sem ↓,go_sem] theorem nmArr_mp (rows : List (Nat × Row)) (k : Nat) (l : List (Nat × Nat)) (q : IntKind) (es : List (Int × AV)) : nmArr rows k l (some (.mp q es)) = (k,.mp q es) :: nmArrs rows l:=rfl
@[go_sem ↓,go_sem] theorem nmArr_mpS (rows : List (Nat × Row)) (k : Nat) (l : List (Nat × Nat)) (ks : List Bool) (keys : List (List AV)) (vals : List AV) : nmArr rows k l (some (.mpS ks keys vals)) = (k,.mpS ks keys vals) :: nmArrs rows l:=rfl
@[go_sem ↓,go_sem] theorem nmArr_iter (rows : List (Nat × Row)) (k : Nat) (l : List (Nat × Nat)) (left : List (AV × AV)) (c : Option (AV × AV)) : nmArr rows k l (some (.iter left c)) = nmArrs rows l:=rfl
@[go_sem ↓,go_sem] theorem nmArr_mpV (rows : List (Nat × Row)) (k : Nat) (l : List (Nat × Nat)) (q : IntKind) (kv : List (Int × AV)) : nmArr rows k l (some (.mpV q kv)) = nmArrs rows l:=rfl
@[go_sem ↓,go_sem] theorem nmArr_log (rows : List (Nat × Row)) (k : Nat) (l : List (Nat × Nat)) (q : Option Nat) (xs : List (List AV)) : nmArr rows k l (some (.log q xs)) = (k,.log q xs) :: nmArrs rows l:=rfl
@[go_sem ↓,go_sem] theorem nmArr_num (rows : List (Nat × Row)) (k : Nat) (l : List (Nat × Nat)) (m : Nat) : nmArr rows k l (some (.num m)) = nmArrs rows l:=rfl
@[go_sem ↓,go_sem] theorem nmArr_box (rows : List (Nat × Row)) (k : Nat) (l : List (Nat × Nat)) (cs : List AV) : nmArr rows k l (some (.box cs)) = nmArrs rows l:=rfl
@[go_sem ↓,go_sem] theorem nmArr_none (rows : List (Nat × Row)) (k : Nat) (l : List (Nat × Nat)) : nmArr rows k l none = nmArrs rows l:=rfl
@[go_sem] theorem nmArrs_nil (rows : List (Nat × Row)) : nmArrs rows [] = []:=rfl
@[go_sem] theorem nmArrs_cons (rows : List (Nat × Row)) (id k : Nat) (l : List (Nat × Nat)) : nmArrs rows ((id,k) :: l) = nmArr rows k l (lk id rows):=by
 simp only [nmArrs]; cases lk id rows with
 | none => rfl
 | some row => cases row <;> rfl
def nmO (k : Nat) (mk : Nat → AV) (id : Nat) (r : Ren) : Option Nat → AV × Ren
 | some k' => (mk k',r)
 | none => (mk k,⟨r.ren ++ [(id,k)],r.virt⟩)
theorem nmO_congr {k : Nat} {mk : Nat → AV} {id : Nat} {r : Ren} {o o' : Option Nat} (h : o = o') : nmO k mk id r o = nmO k mk id r o':=by rw [h]
attribute [congr] nmO_congr
@[go_sem ↓,go_sem] theorem nmO_some (k : Nat) (mk : Nat → AV) (id k' : Nat) (r : Ren) : nmO k mk id r (some k') = (mk k',r):=rfl
@[go_sem ↓,go_sem] theorem nmO_none (k : Nat) (mk : Nat → AV) (id : Nat) (r : Ren) : nmO k mk id r none = (mk k,⟨r.ren ++ [(id,k)],r.virt⟩):=rfl
@[go_sem] theorem nmCell_slice (k id off len : Nat) (r : Ren) : nmCell k (.slice id off len) r = nmO k (fun j=>.slice j off len) id r (lk id r.ren):=by
 simp only [nmCell]; cases lk id r.ren <;> rfl
@[go_sem] theorem nmCell_ptr (k id idx off : Nat) (r : Ren) : nmCell k (.ptr id idx off) r = nmO k (fun j=>.ptr j idx off) id r (lk id r.ren):=by
 simp only [nmCell]; cases lk id r.ren <;> rfl
@[go_sem] theorem nmCell_mapp (k id : Nat) (r : Ren) : nmCell k (.mapp id) r = nmO k (fun j=>.mapp j) id r (lk id r.ren):=by
 simp only [nmCell]; cases lk id r.ren <;> rfl
@[go_sem] theorem nmCell_itT (k id : Nat) (r : Ren) : nmCell k (.itT id) r = nmO k (fun j=>.itT j) id r (lk id r.ren):=by
 simp only [nmCell]; cases lk id r.ren <;> rfl
@[go_sem] theorem nmCell_nilS (k sz : Nat) (r : Ren) : nmCell k (.nilS sz) r = (.slice k 0 0,⟨r.ren,r.virt ++ [(k,sz)]⟩):=rfl
@[go_sem] theorem nmCell_int (k : Nat) (q : IntKind) (n : Int) (r : Ren) : nmCell k (.int q n) r = (.int q n,r):=rfl
@[go_sem] theorem nmCell_bool (k : Nat) (b : Bool) (r : Ren) : nmCell k (.bool b) r = (.bool b,r):=rfl
@[go_sem] theorem nmCell_list (k sz : Nat) (es : List AV) (r : Ren) : nmCell k (.list sz es) r = (.list sz es,r):=rfl
@[go_sem] theorem nmCell_iptr (k : Nat) (e : AV) (o : Nat) (r : Ren) : nmCell k (.iptr e o) r = (.iptr e o,r):=rfl
@[go_sem] theorem nmCell_mapI (k : Nat) (k0 : IntKind) (ks : List Int) (vs : List AV) (r : Ren) : nmCell k (.mapI k0 ks vs) r = (.mapI k0 ks vs,r):=rfl
@[go_sem] theorem nmCell_const (k : Nat) (v : Value) (r : Ren) : nmCell k (.const v) r = (.const v,r):=rfl
@[go_sem] theorem nmCell_func0 (k f : Nat) (r : Ren) : nmCell k (.func f []) r = (.func f [],r):=rfl
@[go_sem] theorem map_one : (Value.map none).oneCell' = true:=rfl
@[go_sem] theorem nmCell_any (k : Nat) (r : Ren) : nmCell k .any r = (.any,r):=rfl
@[go_sem] theorem nmVal_agg (t : Nat) (cs : List AV) (r : Ren) : nmVal t (.agg cs) r = (.agg (nmCells (canon t) 0 cs r).1,(nmCells (canon t) 0 cs r).2):=rfl
@[go_sem] theorem nmVal_func (t f : Nat) (cs : List AV) (r : Ren) : nmVal t (.func f cs) r = (.func f (nmCells (canon t) 0 cs r).1,(nmCells (canon t) 0 cs r).2):=rfl
@[go_sem] theorem nmVal_meth (t f : Nat) (cs : List AV) (r : Ren) : nmVal t (.meth f (.agg cs)) r = (.meth f (.agg (nmCells (canon t) 0 cs r).1),(nmCells (canon t) 0 cs r).2):=rfl
@[go_sem] theorem nmVal_methS (t f id off len : Nat) (r : Ren) : nmVal t (.meth f (.slice id off len)) r = (.meth f (nmCell (canon t 0) (.slice id off len) r).1,(nmCell (canon t 0) (.slice id off len) r).2):=rfl
@[go_sem] theorem nmVal_methL (t f sz : Nat) (es : List AV) (r : Ren) : nmVal t (.meth f (.list sz es)) r = (.meth f (.list sz es),r):=rfl
@[go_sem] theorem nmVal_slice (t id off len : Nat) (r : Ren) : nmVal t (.slice id off len) r = nmCell (canon t 0) (.slice id off len) r:=rfl
@[go_sem] theorem nmVal_ptr (t id off len : Nat) (r : Ren) : nmVal t (.ptr id off len) r = nmCell (canon t 0) (.ptr id off len) r:=rfl
@[go_sem] theorem nmVal_mapp (t id : Nat) (r : Ren) : nmVal t (.mapp id) r = nmCell (canon t 0) (.mapp id) r:=rfl
@[go_sem] theorem nmVal_itT (t id : Nat) (r : Ren) : nmVal t (.itT id) r = nmCell (canon t 0) (.itT id) r:=rfl
@[go_sem] theorem nmVal_nilS (t sz : Nat) (r : Ren) : nmVal t (.nilS sz) r = nmCell (canon t 0) (.nilS sz) r:=rfl
@[go_sem] theorem nmVal_int (t : Nat) (q : IntKind) (n : Int) (r : Ren) : nmVal t (.int q n) r = (.int q n,r):=rfl
@[go_sem] theorem nmVal_bool (t : Nat) (b : Bool) (r : Ren) : nmVal t (.bool b) r = (.bool b,r):=rfl
@[go_sem] theorem nmVal_list (t sz : Nat) (es : List AV) (r : Ren) : nmVal t (.list sz es) r = (.list sz es,r):=rfl
@[go_sem] theorem nmVal_iptr (t : Nat) (e : AV) (o : Nat) (r : Ren) : nmVal t (.iptr e o) r = (.iptr e o,r):=rfl
@[go_sem] theorem nmVal_mapI (t : Nat) (k0 : IntKind) (ks : List Int) (vs : List AV) (r : Ren) : nmVal t (.mapI k0 ks vs) r = (.mapI k0 ks vs,r):=rfl
@[go_sem] theorem nmVal_const (t : Nat) (v : Value) (r : Ren) : nmVal t (.const v) r = (.const v,r):=rfl
def keepO (t : Nat) (r : List (Nat × AV)) : Option AV → List (Nat × AV)
 | some v => (t,v) :: r
 | none => r
theorem keepO_congr {t : Nat} {r : List (Nat × AV)} {o o' : Option AV} (h : o = o') : keepO t r o = keepO t r o':=by rw [h]
attribute [congr] keepO_congr
@[go_sem ↓,go_sem] theorem keepO_some (t : Nat) (r : List (Nat × AV)) (v : AV) : keepO t r (some v) = (t,v) :: r:=rfl
@[go_sem ↓,go_sem] theorem keepO_none (t : Nat) (r : List (Nat × AV)) : keepO t r none = r:=rfl
@[go_sem] theorem keepT_nil (tm : List (Nat × AV)) : keepT [] tm = []:=rfl
@[go_sem] theorem keepT_cons (t : Nat) (ts : List Nat) (tm : List (Nat × AV)) : keepT (t :: ts) tm = keepO t (keepT ts tm) (lk t tm):=by
 simp only [keepT]; cases lk t tm <;> rfl
def finL (res : List ARes) : Fr → Option (AV × List AV)
 | ⟨tm,rows,lent,_⟩ => obind (mapO (resOf tm rows) res) fun vs=>obind (exRes (rowsF rows) (tupled vs)) fun x=>obind (exOuts (exOut rows) lent) fun q=>grdB (nodup (x.mv ++ q.2.1) && disj (x.mv ++ q.2.1) (x.fz ++ q.2.2)) (some (x.v,q.1))
attribute [go_sem] finL.eq_1
def finR (res : List ARes) (r : AV × List AV) : AEx → Fr → Prop
 | .exit _,_ => False
 | _,fr => finL res fr = some r
theorem Yh {res : List ARes} {r : AV × List AV} {fr : Fr} (h : finL res fr = some r) : finR res r .ret fr:=h
theorem fin_norm {res : List ARes} {r : AV × List AV} {fr : Fr} (h : finL res fr = some r) : finR res r .normal fr:=h
theorem Yr {F : Nat → Option AFn} {f : Nat} {fn : AFn} {args : List AV} {r : AV × List AV} {k : Nat} {res : List ARes} {body : ACode} (hf : F f = some fn) (he : fn = ⟨k,res,body⟩) (ha : args.length = k) (hi : (imArgs 200000 args).2.2.2≤10000000)
  (h : Wp (lim F) body ⟨enumFrom 0 (imArgs 200000 args).1,(imArgs 200000 args).2.1,(imArgs 200000 args).2.2.1,10000000⟩ (finR res r)) : lim F f args = some r:=by
 subst he;refine lim_of_wp hf ⟨ha,hi⟩ (h.mono fun ex fr' hq => ?_)
 obtain ⟨tm,rows,lent,next⟩:=fr';cases ex with
 | exit i => exact hq
 | normal => simp only [finR,finL] at hq; simp only [finQ,fin_eq]; exact hq
 | ret => simp only [finR,finL] at hq; simp only [finQ,fin_eq]; exact hq
@[go_sem] theorem cells_int (k : IntKind) (n : Int) : AV.cells (.int k n) = [(AV.int k n)]:=rfl
@[go_sem] theorem scalar_int (k : IntKind) (n : Int) : AV.scalar (.int k n) = true:=rfl
@[go_sem] theorem plain1_int (k : IntKind) (n : Int) : AV.plain1 (.int k n) = true:=rfl
@[go_sem] theorem plain_int (k : IntKind) (n : Int) : AV.plain (.int k n) = true:=rfl
@[go_sem] theorem fresh1_int (k : IntKind) (n : Int) : AV.fresh1 (.int k n) = true:=rfl
@[go_sem] theorem fresh2_int (k : IntKind) (n : Int) : AV.fresh2 (.int k n) = true:=rfl
@[go_sem] theorem fresh_int (k : IntKind) (n : Int) : AV.fresh (.int k n) = true:=rfl
@[go_sem] theorem freshOut_int (k : IntKind) (n : Int) : AV.freshOut (.int k n) = false:=rfl
@[go_sem] theorem imCell_int (m : Nat) (k : IntKind) (n : Int) : imCell m (.int k n) = ((AV.int k n),[],m):=rfl
@[go_sem] theorem imItem_int (m : Nat) (k : IntKind) (n : Int) : imItem m (.int k n) = imCell m (AV.int k n):=rfl
@[go_sem] theorem imRes_int (m : Nat) (k : IntKind) (n : Int) : imRes m (.int k n) = imItem m (AV.int k n):=rfl
@[go_sem] theorem imArg_int (m : Nat) (k : IntKind) (n : Int) : imArg m (.int k n) = ((AV.int k n),[],m):=rfl
@[go_sem] theorem imArgs_int (m : Nat) (k : IntKind) (n : Int) (r : List AV) : imArgs m ((AV.int k n) :: r) = ((imArg m (AV.int k n)).1 :: (imArgs (imArg m (AV.int k n)).2.2 r).1,(imArg m (AV.int k n)).2.1 ++ (imArgs (imArg m (AV.int k n)).2.2 r).2.1,(imArgs (imArg m (AV.int k n)).2.2 r).2.2.1,(imArgs (imArg m (AV.int k n)).2.2 r).2.2.2):=rfl
@[go_sem] theorem reElem_int (k : IntKind) (n : Int) (x : AV) : reElem (.int k n) [x] = some x:=rfl
@[go_sem] theorem cells_bool (b : Bool) : AV.cells (.bool b) = [(AV.bool b)]:=rfl
@[go_sem] theorem scalar_bool (b : Bool) : AV.scalar (.bool b) = true:=rfl
@[go_sem] theorem plain1_bool (b : Bool) : AV.plain1 (.bool b) = true:=rfl
@[go_sem] theorem plain_bool (b : Bool) : AV.plain (.bool b) = true:=rfl
@[go_sem] theorem fresh1_bool (b : Bool) : AV.fresh1 (.bool b) = true:=rfl
@[go_sem] theorem fresh2_bool (b : Bool) : AV.fresh2 (.bool b) = true:=rfl
@[go_sem] theorem fresh_bool (b : Bool) : AV.fresh (.bool b) = true:=rfl
@[go_sem] theorem freshOut_bool (b : Bool) : AV.freshOut (.bool b) = false:=rfl
@[go_sem] theorem imCell_bool (m : Nat) (b : Bool) : imCell m (.bool b) = ((AV.bool b),[],m):=rfl
@[go_sem] theorem imItem_bool (m : Nat) (b : Bool) : imItem m (.bool b) = imCell m (AV.bool b):=rfl
@[go_sem] theorem imRes_bool (m : Nat) (b : Bool) : imRes m (.bool b) = imItem m (AV.bool b):=rfl
@[go_sem] theorem imArg_bool (m : Nat) (b : Bool) : imArg m (.bool b) = ((AV.bool b),[],m):=rfl
@[go_sem] theorem imArgs_bool (m : Nat) (b : Bool) (r : List AV) : imArgs m ((AV.bool b) :: r) = ((imArg m (AV.bool b)).1 :: (imArgs (imArg m (AV.bool b)).2.2 r).1,(imArg m (AV.bool b)).2.1 ++ (imArgs (imArg m (AV.bool b)).2.2 r).2.1,(imArgs (imArg m (AV.bool b)).2.2 r).2.2.1,(imArgs (imArg m (AV.bool b)).2.2 r).2.2.2):=rfl
@[go_sem] theorem reElem_bool (b : Bool) (x : AV) : reElem (.bool b) [x] = some x:=rfl
@[go_sem] theorem cells_any  : AV.cells (.any) = [(AV.any)]:=rfl
@[go_sem] theorem scalar_any  : AV.scalar (.any) = false:=rfl
@[go_sem] theorem plain1_any  : AV.plain1 (.any) = false:=rfl
@[go_sem] theorem plain_any  : AV.plain (.any) = false:=rfl
@[go_sem] theorem fresh1_any  : AV.fresh1 (.any) = false:=rfl
@[go_sem] theorem fresh2_any  : AV.fresh2 (.any) = false:=rfl
@[go_sem] theorem fresh_any  : AV.fresh (.any) = false:=rfl
@[go_sem] theorem freshOut_any  : AV.freshOut (.any) = false:=rfl
@[go_sem] theorem imCell_any (m : Nat)  : imCell m (.any) = ((AV.any),[],m):=rfl
@[go_sem] theorem imItem_any (m : Nat)  : imItem m (.any) = imCell m (AV.any):=rfl
@[go_sem] theorem imRes_any (m : Nat)  : imRes m (.any) = imItem m (AV.any):=rfl
@[go_sem] theorem imArg_any (m : Nat)  : imArg m (.any) = ((AV.any),[],m):=rfl
@[go_sem] theorem imArgs_any (m : Nat)  (r : List AV) : imArgs m ((AV.any) :: r) = ((imArg m (AV.any)).1 :: (imArgs (imArg m (AV.any)).2.2 r).1,(imArg m (AV.any)).2.1 ++ (imArgs (imArg m (AV.any)).2.2 r).2.1,(imArgs (imArg m (AV.any)).2.2 r).2.2.1,(imArgs (imArg m (AV.any)).2.2 r).2.2.2):=rfl
@[go_sem] theorem reElem_any  (x : AV) : reElem (.any) [x] = some x:=rfl
@[go_sem] theorem cells_nilS (sz : Nat) : AV.cells (.nilS sz) = [(AV.nilS sz)]:=rfl
@[go_sem] theorem scalar_nilS (sz : Nat) : AV.scalar (.nilS sz) = true:=rfl
@[go_sem] theorem plain1_nilS (sz : Nat) : AV.plain1 (.nilS sz) = false:=rfl
@[go_sem] theorem plain_nilS (sz : Nat) : AV.plain (.nilS sz) = false:=rfl
@[go_sem] theorem fresh1_nilS (sz : Nat) : AV.fresh1 (.nilS sz) = false:=rfl
@[go_sem] theorem fresh2_nilS (sz : Nat) : AV.fresh2 (.nilS sz) = false:=rfl
@[go_sem] theorem fresh_nilS (sz : Nat) : AV.fresh (.nilS sz) = false:=rfl
@[go_sem] theorem freshOut_nilS (sz : Nat) : AV.freshOut (.nilS sz) = false:=rfl
@[go_sem] theorem imCell_nilS (m : Nat) (sz : Nat) : imCell m (.nilS sz) = ((AV.nilS sz),[],m):=rfl
@[go_sem] theorem imItem_nilS (m : Nat) (sz : Nat) : imItem m (.nilS sz) = imCell m (AV.nilS sz):=rfl
@[go_sem] theorem imRes_nilS (m : Nat) (sz : Nat) : imRes m (.nilS sz) = imItem m (AV.nilS sz):=rfl
@[go_sem] theorem imArg_nilS (m : Nat) (sz : Nat) : imArg m (.nilS sz) = ((AV.nilS sz),[],m):=rfl
@[go_sem] theorem imArgs_nilS (m : Nat) (sz : Nat) (r : List AV) : imArgs m ((AV.nilS sz) :: r) = ((imArg m (AV.nilS sz)).1 :: (imArgs (imArg m (AV.nilS sz)).2.2 r).1,(imArg m (AV.nilS sz)).2.1 ++ (imArgs (imArg m (AV.nilS sz)).2.2 r).2.1,(imArgs (imArg m (AV.nilS sz)).2.2 r).2.2.1,(imArgs (imArg m (AV.nilS sz)).2.2 r).2.2.2):=rfl
@[go_sem] theorem reElem_nilS (sz : Nat) (x : AV) : reElem (.nilS sz) [x] = some x:=rfl
@[go_sem] theorem cells_const (v : Value) : AV.cells (.const v) = [(AV.const v)]:=rfl
@[go_sem] theorem scalar_const (v : Value) : AV.scalar (.const v) = v.oneCell':=rfl
@[go_sem] theorem plain1_const (v : Value) : AV.plain1 (.const v) = false:=rfl
@[go_sem] theorem plain_const (v : Value) : AV.plain (.const v) = false:=rfl
@[go_sem] theorem fresh1_const (v : Value) : AV.fresh1 (.const v) = false:=rfl
@[go_sem] theorem fresh2_const (v : Value) : AV.fresh2 (.const v) = false:=rfl
@[go_sem] theorem fresh_const (v : Value) : AV.fresh (.const v) = false:=rfl
@[go_sem] theorem freshOut_const (v : Value) : AV.freshOut (.const v) = false:=rfl
@[go_sem] theorem imCell_const (m : Nat) (v : Value) : imCell m (.const v) = ((AV.const v),[],m):=rfl
@[go_sem] theorem imItem_const (m : Nat) (v : Value) : imItem m (.const v) = imCell m (AV.const v):=rfl
@[go_sem] theorem imRes_const (m : Nat) (v : Value) : imRes m (.const v) = imItem m (AV.const v):=rfl
@[go_sem] theorem imArg_const (m : Nat) (v : Value) : imArg m (.const v) = ((AV.const v),[],m):=rfl
@[go_sem] theorem imArgs_const (m : Nat) (v : Value) (r : List AV) : imArgs m ((AV.const v) :: r) = ((imArg m (AV.const v)).1 :: (imArgs (imArg m (AV.const v)).2.2 r).1,(imArg m (AV.const v)).2.1 ++ (imArgs (imArg m (AV.const v)).2.2 r).2.1,(imArgs (imArg m (AV.const v)).2.2 r).2.2.1,(imArgs (imArg m (AV.const v)).2.2 r).2.2.2):=rfl
@[go_sem] theorem reElem_const (v : Value) (x : AV) : reElem (.const v) [x] = some x:=rfl
@[go_sem] theorem cells_list (sz : Nat) (es : List AV) : AV.cells (.list sz es) = [(AV.list sz es)]:=rfl
@[go_sem] theorem scalar_list (sz : Nat) (es : List AV) : AV.scalar (.list sz es) = true:=rfl
@[go_sem] theorem plain1_list (sz : Nat) (es : List AV) : AV.plain1 (.list sz es) = false:=rfl
@[go_sem] theorem plain_list (sz : Nat) (es : List AV) : AV.plain (.list sz es) = false:=rfl
@[go_sem] theorem fresh1_list (sz : Nat) (es : List AV) : AV.fresh1 (.list sz es) = false:=rfl
@[go_sem] theorem fresh2_list (sz : Nat) (es : List AV) : AV.fresh2 (.list sz es) = false:=rfl
@[go_sem] theorem fresh_list (sz : Nat) (es : List AV) : AV.fresh (.list sz es) = false:=rfl
@[go_sem] theorem freshOut_list (sz : Nat) (es : List AV) : AV.freshOut (.list sz es) = false:=rfl
@[go_sem] theorem imCell_list (m : Nat) (sz : Nat) (es : List AV) : imCell m (.list sz es) = ((AV.list sz es),[],m):=rfl
@[go_sem] theorem imItem_list (m : Nat) (sz : Nat) (es : List AV) : imItem m (.list sz es) = imCell m (AV.list sz es):=rfl
@[go_sem] theorem imRes_list (m : Nat) (sz : Nat) (es : List AV) : imRes m (.list sz es) = imItem m (AV.list sz es):=rfl
@[go_sem] theorem imArg_list (m : Nat) (sz : Nat) (es : List AV) : imArg m (.list sz es) = ((AV.list sz es),[],m):=rfl
@[go_sem] theorem imArgs_list (m : Nat) (sz : Nat) (es : List AV) (r : List AV) : imArgs m ((AV.list sz es) :: r) = ((imArg m (AV.list sz es)).1 :: (imArgs (imArg m (AV.list sz es)).2.2 r).1,(imArg m (AV.list sz es)).2.1 ++ (imArgs (imArg m (AV.list sz es)).2.2 r).2.1,(imArgs (imArg m (AV.list sz es)).2.2 r).2.2.1,(imArgs (imArg m (AV.list sz es)).2.2 r).2.2.2):=rfl
@[go_sem] theorem reElem_list (sz : Nat) (es : List AV) (x : AV) : reElem (.list sz es) [x] = some x:=rfl
@[go_sem] theorem cells_iptr (e : AV) (o : Nat) : AV.cells (.iptr e o) = [(AV.iptr e o)]:=rfl
@[go_sem] theorem cells_mapI (k0 : IntKind) (ks : List Int) (vs : List AV) : AV.cells (.mapI k0 ks vs) = [(AV.mapI k0 ks vs)]:=rfl
@[go_sem] theorem scalar_iptr (e : AV) (o : Nat) : AV.scalar (.iptr e o) = true:=rfl
@[go_sem] theorem scalar_mapI (k0 : IntKind) (ks : List Int) (vs : List AV) : AV.scalar (.mapI k0 ks vs) = true:=rfl
@[go_sem] theorem plain1_iptr (e : AV) (o : Nat) : AV.plain1 (.iptr e o) = false:=rfl
@[go_sem] theorem plain1_mapI (k0 : IntKind) (ks : List Int) (vs : List AV) : AV.plain1 (.mapI k0 ks vs) = false:=rfl
@[go_sem] theorem plain_iptr (e : AV) (o : Nat) : AV.plain (.iptr e o) = false:=rfl
@[go_sem] theorem plain_mapI (k0 : IntKind) (ks : List Int) (vs : List AV) : AV.plain (.mapI k0 ks vs) = false:=rfl
@[go_sem] theorem fresh1_iptr (e : AV) (o : Nat) : AV.fresh1 (.iptr e o) = false:=rfl
@[go_sem] theorem fresh1_mapI (k0 : IntKind) (ks : List Int) (vs : List AV) : AV.fresh1 (.mapI k0 ks vs) = false:=rfl
@[go_sem] theorem fresh2_iptr (e : AV) (o : Nat) : AV.fresh2 (.iptr e o) = false:=rfl
@[go_sem] theorem fresh2_mapI (k0 : IntKind) (ks : List Int) (vs : List AV) : AV.fresh2 (.mapI k0 ks vs) = false:=rfl
@[go_sem] theorem fresh_iptr (e : AV) (o : Nat) : AV.fresh (.iptr e o) = false:=rfl
@[go_sem] theorem fresh_mapI (k0 : IntKind) (ks : List Int) (vs : List AV) : AV.fresh (.mapI k0 ks vs) = false:=rfl
@[go_sem] theorem freshOut_iptr (e : AV) (o : Nat) : AV.freshOut (.iptr e o) = false:=rfl
@[go_sem] theorem freshOut_mapI (k0 : IntKind) (ks : List Int) (vs : List AV) : AV.freshOut (.mapI k0 ks vs) = false:=rfl
@[go_sem] theorem imCell_iptr (m : Nat) (e : AV) (o : Nat) : imCell m (.iptr e o) = ((AV.iptr e o),[],m):=rfl
@[go_sem] theorem imCell_mapI (m : Nat) (k0 : IntKind) (ks : List Int) (vs : List AV) : imCell m (.mapI k0 ks vs) = ((AV.mapI k0 ks vs),[],m):=rfl
@[go_sem] theorem imItem_iptr (m : Nat) (e : AV) (o : Nat) : imItem m (.iptr e o) = imCell m (AV.iptr e o):=rfl
@[go_sem] theorem imItem_mapI (m : Nat) (k0 : IntKind) (ks : List Int) (vs : List AV) : imItem m (.mapI k0 ks vs) = imCell m (AV.mapI k0 ks vs):=rfl
@[go_sem] theorem imRes_iptr (m : Nat) (e : AV) (o : Nat) : imRes m (.iptr e o) = imItem m (AV.iptr e o):=rfl
@[go_sem] theorem imRes_mapI (m : Nat) (k0 : IntKind) (ks : List Int) (vs : List AV) : imRes m (.mapI k0 ks vs) = imItem m (AV.mapI k0 ks vs):=rfl
@[go_sem] theorem imArg_iptr (m : Nat) (e : AV) (o : Nat) : imArg m (.iptr e o) = ((AV.iptr e o),[],m):=rfl
@[go_sem] theorem imArg_mapI (m : Nat) (k0 : IntKind) (ks : List Int) (vs : List AV) : imArg m (.mapI k0 ks vs) = ((AV.mapI k0 ks vs),[],m):=rfl
@[go_sem] theorem imArgs_iptr (m : Nat) (e : AV) (o : Nat) (r : List AV) : imArgs m ((AV.iptr e o) :: r) = ((imArg m (AV.iptr e o)).1 :: (imArgs (imArg m (AV.iptr e o)).2.2 r).1,(imArg m (AV.iptr e o)).2.1 ++ (imArgs (imArg m (AV.iptr e o)).2.2 r).2.1,(imArgs (imArg m (AV.iptr e o)).2.2 r).2.2.1,(imArgs (imArg m (AV.iptr e o)).2.2 r).2.2.2):=rfl
@[go_sem] theorem imArgs_mapI (m : Nat) (k0 : IntKind) (ks : List Int) (vs : List AV) (r : List AV) : imArgs m ((AV.mapI k0 ks vs) :: r) = ((imArg m (AV.mapI k0 ks vs)).1 :: (imArgs (imArg m (AV.mapI k0 ks vs)).2.2 r).1,(imArg m (AV.mapI k0 ks vs)).2.1 ++ (imArgs (imArg m (AV.mapI k0 ks vs)).2.2 r).2.1,(imArgs (imArg m (AV.mapI k0 ks vs)).2.2 r).2.2.1,(imArgs (imArg m (AV.mapI k0 ks vs)).2.2 r).2.2.2):=rfl
@[go_sem] theorem reElem_iptr (e : AV) (o : Nat) (x : AV) : reElem (.iptr e o) [x] = some x:=rfl
@[go_sem] theorem reElem_mapI (k0 : IntKind) (ks : List Int) (vs : List AV) (x : AV) : reElem (.mapI k0 ks vs) [x] = some x:=rfl
@[go_sem] theorem cells_ptr (a b c : Nat) : AV.cells (.ptr a b c) = [(AV.ptr a b c)]:=rfl
@[go_sem] theorem scalar_ptr (a b c : Nat) : AV.scalar (.ptr a b c) = true:=rfl
@[go_sem] theorem plain1_ptr (a b c : Nat) : AV.plain1 (.ptr a b c) = false:=rfl
@[go_sem] theorem plain_ptr (a b c : Nat) : AV.plain (.ptr a b c) = false:=rfl
@[go_sem] theorem fresh1_ptr (a b c : Nat) : AV.fresh1 (.ptr a b c) = false:=rfl
@[go_sem] theorem fresh2_ptr (a b c : Nat) : AV.fresh2 (.ptr a b c) = false:=rfl
@[go_sem] theorem fresh_ptr (a b c : Nat) : AV.fresh (.ptr a b c) = false:=rfl
@[go_sem] theorem freshOut_ptr (a b c : Nat) : AV.freshOut (.ptr a b c) = false:=rfl
@[go_sem] theorem imCell_ptr (m : Nat) (a b c : Nat) : imCell m (.ptr a b c) = ((AV.ptr a b c),[],m):=rfl
@[go_sem] theorem imItem_ptr (m : Nat) (a b c : Nat) : imItem m (.ptr a b c) = imCell m (AV.ptr a b c):=rfl
@[go_sem] theorem imRes_ptr (m : Nat) (a b c : Nat) : imRes m (.ptr a b c) = imItem m (AV.ptr a b c):=rfl
@[go_sem] theorem imArg_ptr (m : Nat) (a b c : Nat) : imArg m (.ptr a b c) = ((AV.ptr a b c),[],m):=rfl
@[go_sem] theorem imArgs_ptr (m : Nat) (a b c : Nat) (r : List AV) : imArgs m ((AV.ptr a b c) :: r) = ((imArg m (AV.ptr a b c)).1 :: (imArgs (imArg m (AV.ptr a b c)).2.2 r).1,(imArg m (AV.ptr a b c)).2.1 ++ (imArgs (imArg m (AV.ptr a b c)).2.2 r).2.1,(imArgs (imArg m (AV.ptr a b c)).2.2 r).2.2.1,(imArgs (imArg m (AV.ptr a b c)).2.2 r).2.2.2):=rfl
@[go_sem] theorem reElem_ptr (a b c : Nat) (x : AV) : reElem (.ptr a b c) [x] = some x:=rfl
@[go_sem] theorem cells_slice (a b c : Nat) : AV.cells (.slice a b c) = [(AV.slice a b c)]:=rfl
@[go_sem] theorem scalar_slice (a b c : Nat) : AV.scalar (.slice a b c) = true:=rfl
@[go_sem] theorem plain1_slice (a b c : Nat) : AV.plain1 (.slice a b c) = false:=rfl
@[go_sem] theorem plain_slice (a b c : Nat) : AV.plain (.slice a b c) = false:=rfl
@[go_sem] theorem fresh1_slice (a b c : Nat) : AV.fresh1 (.slice a b c) = false:=rfl
@[go_sem] theorem fresh2_slice (a b c : Nat) : AV.fresh2 (.slice a b c) = false:=rfl
@[go_sem] theorem fresh_slice (a b c : Nat) : AV.fresh (.slice a b c) = false:=rfl
@[go_sem] theorem freshOut_slice (a b c : Nat) : AV.freshOut (.slice a b c) = false:=rfl
@[go_sem] theorem imCell_slice (m : Nat) (a b c : Nat) : imCell m (.slice a b c) = ((AV.slice a b c),[],m):=rfl
@[go_sem] theorem imItem_slice (m : Nat) (a b c : Nat) : imItem m (.slice a b c) = imCell m (AV.slice a b c):=rfl
@[go_sem] theorem imRes_slice (m : Nat) (a b c : Nat) : imRes m (.slice a b c) = imItem m (AV.slice a b c):=rfl
@[go_sem] theorem imArg_slice (m : Nat) (a b c : Nat) : imArg m (.slice a b c) = ((AV.slice a b c),[],m):=rfl
@[go_sem] theorem imArgs_slice (m : Nat) (a b c : Nat) (r : List AV) : imArgs m ((AV.slice a b c) :: r) = ((imArg m (AV.slice a b c)).1 :: (imArgs (imArg m (AV.slice a b c)).2.2 r).1,(imArg m (AV.slice a b c)).2.1 ++ (imArgs (imArg m (AV.slice a b c)).2.2 r).2.1,(imArgs (imArg m (AV.slice a b c)).2.2 r).2.2.1,(imArgs (imArg m (AV.slice a b c)).2.2 r).2.2.2):=rfl
@[go_sem] theorem reElem_slice (a b c : Nat) (x : AV) : reElem (.slice a b c) [x] = some x:=rfl
@[go_sem] theorem cells_mapp (a : Nat) : AV.cells (.mapp a) = [(AV.mapp a)]:=rfl
@[go_sem] theorem cells_itT (a : Nat) : AV.cells (.itT a) = [(AV.itT a)]:=rfl
@[go_sem] theorem scalar_mapp (a : Nat) : AV.scalar (.mapp a) = true:=rfl
@[go_sem] theorem scalar_itT (a : Nat) : AV.scalar (.itT a) = true:=rfl
@[go_sem] theorem plain1_mapp (a : Nat) : AV.plain1 (.mapp a) = false:=rfl
@[go_sem] theorem plain1_itT (a : Nat) : AV.plain1 (.itT a) = false:=rfl
@[go_sem] theorem plain_mapp (a : Nat) : AV.plain (.mapp a) = false:=rfl
@[go_sem] theorem plain_itT (a : Nat) : AV.plain (.itT a) = false:=rfl
@[go_sem] theorem fresh1_mapp (a : Nat) : AV.fresh1 (.mapp a) = false:=rfl
@[go_sem] theorem fresh1_itT (a : Nat) : AV.fresh1 (.itT a) = false:=rfl
@[go_sem] theorem fresh2_mapp (a : Nat) : AV.fresh2 (.mapp a) = false:=rfl
@[go_sem] theorem fresh2_itT (a : Nat) : AV.fresh2 (.itT a) = false:=rfl
@[go_sem] theorem fresh_mapp (a : Nat) : AV.fresh (.mapp a) = false:=rfl
@[go_sem] theorem fresh_itT (a : Nat) : AV.fresh (.itT a) = false:=rfl
@[go_sem] theorem freshOut_mapp (a : Nat) : AV.freshOut (.mapp a) = false:=rfl
@[go_sem] theorem freshOut_itT (a : Nat) : AV.freshOut (.itT a) = false:=rfl
@[go_sem] theorem imCell_mapp (m : Nat) (a : Nat) : imCell m (.mapp a) = ((AV.mapp a),[],m):=rfl
@[go_sem] theorem imCell_itT (m : Nat) (a : Nat) : imCell m (.itT a) = ((AV.itT a),[],m):=rfl
@[go_sem] theorem imItem_mapp (m : Nat) (a : Nat) : imItem m (.mapp a) = imCell m (AV.mapp a):=rfl
@[go_sem] theorem imItem_itT (m : Nat) (a : Nat) : imItem m (.itT a) = imCell m (AV.itT a):=rfl
@[go_sem] theorem imRes_mapp (m : Nat) (a : Nat) : imRes m (.mapp a) = imItem m (AV.mapp a):=rfl
@[go_sem] theorem imRes_itT (m : Nat) (a : Nat) : imRes m (.itT a) = imItem m (AV.itT a):=rfl
@[go_sem] theorem imArg_mapp (m : Nat) (a : Nat) : imArg m (.mapp a) = ((AV.mapp a),[],m):=rfl
@[go_sem] theorem imArg_itT (m : Nat) (a : Nat) : imArg m (.itT a) = ((AV.itT a),[],m):=rfl
@[go_sem] theorem imArgs_mapp (m : Nat) (a : Nat) (r : List AV) : imArgs m ((AV.mapp a) :: r) = ((imArg m (AV.mapp a)).1 :: (imArgs (imArg m (AV.mapp a)).2.2 r).1,(imArg m (AV.mapp a)).2.1 ++ (imArgs (imArg m (AV.mapp a)).2.2 r).2.1,(imArgs (imArg m (AV.mapp a)).2.2 r).2.2.1,(imArgs (imArg m (AV.mapp a)).2.2 r).2.2.2):=rfl
@[go_sem] theorem imArgs_itT (m : Nat) (a : Nat) (r : List AV) : imArgs m ((AV.itT a) :: r) = ((imArg m (AV.itT a)).1 :: (imArgs (imArg m (AV.itT a)).2.2 r).1,(imArg m (AV.itT a)).2.1 ++ (imArgs (imArg m (AV.itT a)).2.2 r).2.1,(imArgs (imArg m (AV.itT a)).2.2 r).2.2.1,(imArgs (imArg m (AV.itT a)).2.2 r).2.2.2):=rfl
@[go_sem] theorem reElem_mapp (a : Nat) (x : AV) : reElem (.mapp a) [x] = some x:=rfl
@[go_sem] theorem reElem_itT (a : Nat) (x : AV) : reElem (.itT a) [x] = some x:=rfl
@[go_sem] theorem cells_agg (cs : List AV) : AV.cells (.agg cs) = cs:=rfl
@[go_sem] theorem scalar_agg (cs : List AV) : AV.scalar (.agg cs) = false:=rfl
@[go_sem] theorem plain1_agg (cs : List AV) : AV.plain1 (.agg cs) = false:=rfl
@[go_sem] theorem plain_agg (cs : List AV) : AV.plain (.agg cs) = cs.all AV.plain1:=rfl
@[go_sem] theorem fresh1_agg (cs : List AV) : AV.fresh1 (.agg cs) = false:=rfl
@[go_sem] theorem fresh2_agg (cs : List AV) : AV.fresh2 (.agg cs) = cs.all AV.fresh1:=rfl
@[go_sem] theorem fresh_agg (cs : List AV) : AV.fresh (.agg cs) = cs.all AV.fresh1:=rfl
@[go_sem] theorem freshOut_agg (cs : List AV) : AV.freshOut (.agg cs) = false:=rfl
@[go_sem] theorem imCell_agg (m : Nat) (cs : List AV) : imCell m (.agg cs) = ((AV.agg cs),[],m):=rfl
@[go_sem] theorem imItem_agg (m : Nat) (cs : List AV) : imItem m (.agg cs) = (.agg (imL imCell m cs).1,(imL imCell m cs).2.1,(imL imCell m cs).2.2):=rfl
@[go_sem] theorem imRes_agg (m : Nat) (cs : List AV) : imRes m (.agg cs) = imItem m (AV.agg cs):=rfl
@[go_sem] theorem imArg_agg (m : Nat) (cs : List AV) : imArg m (.agg cs) = ((AV.agg cs),[],m):=rfl
@[go_sem] theorem imArgs_agg (m : Nat) (cs : List AV) (r : List AV) : imArgs m ((AV.agg cs) :: r) = ((imArg m (AV.agg cs)).1 :: (imArgs (imArg m (AV.agg cs)).2.2 r).1,(imArg m (AV.agg cs)).2.1 ++ (imArgs (imArg m (AV.agg cs)).2.2 r).2.1,(imArgs (imArg m (AV.agg cs)).2.2 r).2.2.1,(imArgs (imArg m (AV.agg cs)).2.2 r).2.2.2):=rfl
@[go_sem] theorem reElem_agg (cs : List AV) (xs : List AV) : reElem (.agg cs) xs = some (.agg xs):=rfl
@[go_sem] theorem cells_tuple (vs : List AV) : AV.cells (.tuple vs) = [(AV.tuple vs)]:=rfl
@[go_sem] theorem scalar_tuple (vs : List AV) : AV.scalar (.tuple vs) = false:=rfl
@[go_sem] theorem plain1_tuple (vs : List AV) : AV.plain1 (.tuple vs) = false:=rfl
@[go_sem] theorem plain_tuple (vs : List AV) : AV.plain (.tuple vs) = false:=rfl
@[go_sem] theorem fresh1_tuple (vs : List AV) : AV.fresh1 (.tuple vs) = false:=rfl
@[go_sem] theorem fresh2_tuple (vs : List AV) : AV.fresh2 (.tuple vs) = false:=rfl
@[go_sem] theorem fresh_tuple (vs : List AV) : AV.fresh (.tuple vs) = vs.all AV.fresh2:=rfl
@[go_sem] theorem freshOut_tuple (vs : List AV) : AV.freshOut (.tuple vs) = false:=rfl
@[go_sem] theorem imCell_tuple (m : Nat) (vs : List AV) : imCell m (.tuple vs) = ((AV.tuple vs),[],m):=rfl
@[go_sem] theorem imItem_tuple (m : Nat) (vs : List AV) : imItem m (.tuple vs) = imCell m (AV.tuple vs):=rfl
@[go_sem] theorem imRes_tuple (m : Nat) (vs : List AV) : imRes m (.tuple vs) = (.tuple (imL imItem m vs).1,(imL imItem m vs).2.1,(imL imItem m vs).2.2):=rfl
@[go_sem] theorem imArg_tuple (m : Nat) (vs : List AV) : imArg m (.tuple vs) = ((AV.tuple vs),[],m):=rfl
@[go_sem] theorem imArgs_tuple (m : Nat) (vs : List AV) (r : List AV) : imArgs m ((AV.tuple vs) :: r) = ((imArg m (AV.tuple vs)).1 :: (imArgs (imArg m (AV.tuple vs)).2.2 r).1,(imArg m (AV.tuple vs)).2.1 ++ (imArgs (imArg m (AV.tuple vs)).2.2 r).2.1,(imArgs (imArg m (AV.tuple vs)).2.2 r).2.2.1,(imArgs (imArg m (AV.tuple vs)).2.2 r).2.2.2):=rfl
@[go_sem] theorem reElem_tuple (vs : List AV) (x : AV) : reElem (.tuple vs) [x] = some x:=rfl
@[go_sem] theorem cells_func (f : Nat) (cap : List AV) : AV.cells (.func f cap) = [(AV.func f cap)]:=rfl
@[go_sem] theorem scalar_func (f : Nat) (cap : List AV) : AV.scalar (.func f cap) = true:=rfl
@[go_sem] theorem plain1_func (f : Nat) (cap : List AV) : AV.plain1 (.func f cap) = false:=rfl
@[go_sem] theorem plain_func (f : Nat) (cap : List AV) : AV.plain (.func f cap) = false:=rfl
@[go_sem] theorem fresh1_func (f : Nat) (cap : List AV) : AV.fresh1 (.func f cap) = false:=rfl
@[go_sem] theorem fresh2_func (f : Nat) (cap : List AV) : AV.fresh2 (.func f cap) = false:=rfl
@[go_sem] theorem fresh_func (f : Nat) (cap : List AV) : AV.fresh (.func f cap) = false:=rfl
@[go_sem] theorem freshOut_func (f : Nat) (cap : List AV) : AV.freshOut (.func f cap) = false:=rfl
@[go_sem] theorem imCell_func (m : Nat) (f : Nat) (cap : List AV) : imCell m (.func f cap) = ((AV.func f cap),[],m):=rfl
@[go_sem] theorem imItem_func (m : Nat) (f : Nat) (cap : List AV) : imItem m (.func f cap) = imCell m (AV.func f cap):=rfl
@[go_sem] theorem imRes_func (m : Nat) (f : Nat) (cap : List AV) : imRes m (.func f cap) = imItem m (AV.func f cap):=rfl
@[go_sem] theorem imArg_func (m : Nat) (f : Nat) (cap : List AV) : imArg m (.func f cap) = ((AV.func f cap),[],m):=rfl
@[go_sem] theorem imArgs_func (m : Nat) (f : Nat) (cap : List AV) (r : List AV) : imArgs m ((AV.func f cap) :: r) = ((imArg m (AV.func f cap)).1 :: (imArgs (imArg m (AV.func f cap)).2.2 r).1,(imArg m (AV.func f cap)).2.1 ++ (imArgs (imArg m (AV.func f cap)).2.2 r).2.1,(imArgs (imArg m (AV.func f cap)).2.2 r).2.2.1,(imArgs (imArg m (AV.func f cap)).2.2 r).2.2.2):=rfl
@[go_sem] theorem reElem_func (f : Nat) (cap : List AV) (x : AV) : reElem (.func f cap) [x] = some x:=rfl
@[go_sem] theorem cells_meth (f : Nat) (b : AV) : AV.cells (.meth f b) = [(AV.meth f b)]:=rfl
@[go_sem] theorem scalar_meth (f : Nat) (b : AV) : AV.scalar (.meth f b) = true:=rfl
@[go_sem] theorem plain1_meth (f : Nat) (b : AV) : AV.plain1 (.meth f b) = false:=rfl
@[go_sem] theorem plain_meth (f : Nat) (b : AV) : AV.plain (.meth f b) = false:=rfl
@[go_sem] theorem fresh1_meth (f : Nat) (b : AV) : AV.fresh1 (.meth f b) = false:=rfl
@[go_sem] theorem fresh2_meth (f : Nat) (b : AV) : AV.fresh2 (.meth f b) = false:=rfl
@[go_sem] theorem fresh_meth (f : Nat) (b : AV) : AV.fresh (.meth f b) = false:=rfl
@[go_sem] theorem freshOut_meth (f : Nat) (b : AV) : AV.freshOut (.meth f b) = false:=rfl
@[go_sem] theorem imCell_meth (m : Nat) (f : Nat) (b : AV) : imCell m (.meth f b) = ((AV.meth f b),[],m):=rfl
@[go_sem] theorem imItem_meth (m : Nat) (f : Nat) (b : AV) : imItem m (.meth f b) = imCell m (AV.meth f b):=rfl
@[go_sem] theorem imRes_meth (m : Nat) (f : Nat) (b : AV) : imRes m (.meth f b) = imItem m (AV.meth f b):=rfl
@[go_sem] theorem imArg_meth (m : Nat) (f : Nat) (b : AV) : imArg m (.meth f b) = ((AV.meth f b),[],m):=rfl
@[go_sem] theorem imArgs_meth (m : Nat) (f : Nat) (b : AV) (r : List AV) : imArgs m ((AV.meth f b) :: r) = ((imArg m (AV.meth f b)).1 :: (imArgs (imArg m (AV.meth f b)).2.2 r).1,(imArg m (AV.meth f b)).2.1 ++ (imArgs (imArg m (AV.meth f b)).2.2 r).2.1,(imArgs (imArg m (AV.meth f b)).2.2 r).2.2.1,(imArgs (imArg m (AV.meth f b)).2.2 r).2.2.2):=rfl
@[go_sem] theorem reElem_meth (f : Nat) (b : AV) (x : AV) : reElem (.meth f b) [x] = some x:=rfl
@[go_sem] theorem cells_own (sz : Nat) (es : List AV) : AV.cells (.own sz es) = [(AV.own sz es)]:=rfl
@[go_sem] theorem scalar_own (sz : Nat) (es : List AV) : AV.scalar (.own sz es) = false:=rfl
@[go_sem] theorem plain1_own (sz : Nat) (es : List AV) : AV.plain1 (.own sz es) = false:=rfl
@[go_sem] theorem plain_own (sz : Nat) (es : List AV) : AV.plain (.own sz es) = false:=rfl
@[go_sem] theorem fresh1_own (sz : Nat) (es : List AV) : AV.fresh1 (.own sz es) = es.all AV.plain:=rfl
@[go_sem] theorem fresh2_own (sz : Nat) (es : List AV) : AV.fresh2 (.own sz es) = es.all AV.plain:=rfl
@[go_sem] theorem fresh_own (sz : Nat) (es : List AV) : AV.fresh (.own sz es) = es.all AV.plain:=rfl
@[go_sem] theorem freshOut_own (sz : Nat) (es : List AV) : AV.freshOut (.own sz es) = false:=rfl
@[go_sem] theorem imCell_own (m : Nat) (sz : Nat) (es : List AV) : imCell m (.own sz es) = (.slice m 0 es.length,[(m,.arr sz es)],m + 1):=rfl
@[go_sem] theorem imItem_own (m : Nat) (sz : Nat) (es : List AV) : imItem m (.own sz es) = imCell m (AV.own sz es):=rfl
@[go_sem] theorem imRes_own (m : Nat) (sz : Nat) (es : List AV) : imRes m (.own sz es) = imItem m (AV.own sz es):=rfl
@[go_sem] theorem imArg_own (m : Nat) (sz : Nat) (es : List AV) : imArg m (.own sz es) = (.slice m 0 es.length,[(m,.arr sz es)],m + 1):=rfl
@[go_sem] theorem imArgs_own (m : Nat) (sz : Nat) (es : List AV) (r : List AV) : imArgs m ((AV.own sz es) :: r) = ((imArg m (AV.own sz es)).1 :: (imArgs (imArg m (AV.own sz es)).2.2 r).1,(imArg m (AV.own sz es)).2.1 ++ (imArgs (imArg m (AV.own sz es)).2.2 r).2.1,(imArgs (imArg m (AV.own sz es)).2.2 r).2.2.1,(imArgs (imArg m (AV.own sz es)).2.2 r).2.2.2):=rfl
@[go_sem] theorem reElem_own (sz : Nat) (es : List AV) (x : AV) : reElem (.own sz es) [x] = some x:=rfl
@[go_sem] theorem cells_bor (cs : List AV) : AV.cells (.bor cs) = [(AV.bor cs)]:=rfl
@[go_sem] theorem scalar_bor (cs : List AV) : AV.scalar (.bor cs) = false:=rfl
@[go_sem] theorem plain1_bor (cs : List AV) : AV.plain1 (.bor cs) = false:=rfl
@[go_sem] theorem plain_bor (cs : List AV) : AV.plain (.bor cs) = false:=rfl
@[go_sem] theorem fresh1_bor (cs : List AV) : AV.fresh1 (.bor cs) = false:=rfl
@[go_sem] theorem fresh2_bor (cs : List AV) : AV.fresh2 (.bor cs) = false:=rfl
@[go_sem] theorem fresh_bor (cs : List AV) : AV.fresh (.bor cs) = false:=rfl
@[go_sem] theorem freshOut_bor (cs : List AV) : AV.freshOut (.bor cs) = cs.all AV.fresh1:=rfl
@[go_sem] theorem imCell_bor (m : Nat) (cs : List AV) : imCell m (.bor cs) = ((AV.bor cs),[],m):=rfl
@[go_sem] theorem imItem_bor (m : Nat) (cs : List AV) : imItem m (.bor cs) = imCell m (AV.bor cs):=rfl
@[go_sem] theorem imRes_bor (m : Nat) (cs : List AV) : imRes m (.bor cs) = imItem m (AV.bor cs):=rfl
@[go_sem] theorem imArg_bor (m : Nat) (cs : List AV) : imArg m (.bor cs) = (.ptr m 0 0,(m,.box (imL imCell (m + 1) cs).1) :: (imL imCell (m + 1) cs).2.1,(imL imCell (m + 1) cs).2.2):=rfl
@[go_sem] theorem imArgs_bor (m : Nat) (cs : List AV) (r : List AV) : imArgs m ((AV.bor cs) :: r) = ((imArg m (AV.bor cs)).1 :: (imArgs (imArg m (AV.bor cs)).2.2 r).1,(imArg m (AV.bor cs)).2.1 ++ (imArgs (imArg m (AV.bor cs)).2.2 r).2.1,(m,none) :: (imArgs (imArg m (AV.bor cs)).2.2 r).2.2.1,(imArgs (imArg m (AV.bor cs)).2.2 r).2.2.2):=rfl
@[go_sem] theorem reElem_bor (cs : List AV) (x : AV) : reElem (.bor cs) [x] = some x:=rfl
@[go_sem] theorem cells_borS (sz : Nat) (es : List AV) : AV.cells (.borS sz es) = [(AV.borS sz es)]:=rfl
@[go_sem] theorem scalar_borS (sz : Nat) (es : List AV) : AV.scalar (.borS sz es) = false:=rfl
@[go_sem] theorem plain1_borS (sz : Nat) (es : List AV) : AV.plain1 (.borS sz es) = false:=rfl
@[go_sem] theorem plain_borS (sz : Nat) (es : List AV) : AV.plain (.borS sz es) = false:=rfl
@[go_sem] theorem fresh1_borS (sz : Nat) (es : List AV) : AV.fresh1 (.borS sz es) = false:=rfl
@[go_sem] theorem fresh2_borS (sz : Nat) (es : List AV) : AV.fresh2 (.borS sz es) = false:=rfl
@[go_sem] theorem fresh_borS (sz : Nat) (es : List AV) : AV.fresh (.borS sz es) = false:=rfl
@[go_sem] theorem freshOut_borS (sz : Nat) (es : List AV) : AV.freshOut (.borS sz es) = es.all AV.plain:=rfl
@[go_sem] theorem imCell_borS (m : Nat) (sz : Nat) (es : List AV) : imCell m (.borS sz es) = ((AV.borS sz es),[],m):=rfl
@[go_sem] theorem imItem_borS (m : Nat) (sz : Nat) (es : List AV) : imItem m (.borS sz es) = imCell m (AV.borS sz es):=rfl
@[go_sem] theorem imRes_borS (m : Nat) (sz : Nat) (es : List AV) : imRes m (.borS sz es) = imItem m (AV.borS sz es):=rfl
@[go_sem] theorem imArg_borS (m : Nat) (sz : Nat) (es : List AV) : imArg m (.borS sz es) = (.slice m 0 es.length,[(m,.arr sz es)],m + 1):=rfl
@[go_sem] theorem imArgs_borS (m : Nat) (sz : Nat) (es : List AV) (r : List AV) : imArgs m ((AV.borS sz es) :: r) = ((imArg m (AV.borS sz es)).1 :: (imArgs (imArg m (AV.borS sz es)).2.2 r).1,(imArg m (AV.borS sz es)).2.1 ++ (imArgs (imArg m (AV.borS sz es)).2.2 r).2.1,(m,some es.length) :: (imArgs (imArg m (AV.borS sz es)).2.2 r).2.2.1,(imArgs (imArg m (AV.borS sz es)).2.2 r).2.2.2):=rfl
@[go_sem] theorem fresh1_borM (ks : List Bool) (keys : List (List AV)) (vals : List AV) : AV.fresh1 (.borM ks keys vals) = false:=rfl
@[go_sem] theorem freshOut_borM (ks : List Bool) (keys : List (List AV)) (vals : List AV) : AV.freshOut (.borM ks keys vals) = true:=rfl
@[go_sem] theorem imArg_borM (m : Nat) (ks : List Bool) (keys : List (List AV)) (vals : List AV) : imArg m (.borM ks keys vals) = (.mapp m,[(m,mapRow ks keys vals)],m + 1):=rfl
@[go_sem] theorem imArgs_borM (m : Nat) (ks : List Bool) (keys : List (List AV)) (vals : List AV) (r : List AV) : imArgs m ((AV.borM ks keys vals) :: r) = ((imArg m (AV.borM ks keys vals)).1 :: (imArgs (imArg m (AV.borM ks keys vals)).2.2 r).1,(imArg m (AV.borM ks keys vals)).2.1 ++ (imArgs (imArg m (AV.borM ks keys vals)).2.2 r).2.1,(m,none) :: (imArgs (imArg m (AV.borM ks keys vals)).2.2 r).2.2.1,(imArgs (imArg m (AV.borM ks keys vals)).2.2 r).2.2.2):=rfl
@[go_sem] theorem reElem_borS (sz : Nat) (es : List AV) (x : AV) : reElem (.borS sz es) [x] = some x:=rfl
@[go_sem] theorem cells_ownM (ks : List Bool) (keys : List (List AV)) (vals : List AV) : AV.cells (.ownM ks keys vals) = [(AV.ownM ks keys vals)]:=rfl
@[go_sem] theorem scalar_ownM (ks : List Bool) (keys : List (List AV)) (vals : List AV) : AV.scalar (.ownM ks keys vals) = false:=rfl
@[go_sem] theorem plain1_ownM (ks : List Bool) (keys : List (List AV)) (vals : List AV) : AV.plain1 (.ownM ks keys vals) = false:=rfl
@[go_sem] theorem plain_ownM (ks : List Bool) (keys : List (List AV)) (vals : List AV) : AV.plain (.ownM ks keys vals) = false:=rfl
@[go_sem] theorem fresh1_ownM (ks : List Bool) (keys : List (List AV)) (vals : List AV) : AV.fresh1 (.ownM ks keys vals) = true:=rfl
@[go_sem] theorem fresh2_ownM (ks : List Bool) (keys : List (List AV)) (vals : List AV) : AV.fresh2 (.ownM ks keys vals) = true:=rfl
@[go_sem] theorem fresh_ownM (ks : List Bool) (keys : List (List AV)) (vals : List AV) : AV.fresh (.ownM ks keys vals) = true:=rfl
@[go_sem] theorem freshOut_ownM (ks : List Bool) (keys : List (List AV)) (vals : List AV) : AV.freshOut (.ownM ks keys vals) = false:=rfl
@[go_sem] theorem imCell_ownM (m : Nat) (ks : List Bool) (keys : List (List AV)) (vals : List AV) : imCell m (.ownM ks keys vals) = (.mapp m,[(m,mapRow ks keys vals)],m + 1):=rfl
@[go_sem] theorem imItem_ownM (m : Nat) (ks : List Bool) (keys : List (List AV)) (vals : List AV) : imItem m (.ownM ks keys vals) = imCell m (AV.ownM ks keys vals):=rfl
@[go_sem] theorem imRes_ownM (m : Nat) (ks : List Bool) (keys : List (List AV)) (vals : List AV) : imRes m (.ownM ks keys vals) = imItem m (AV.ownM ks keys vals):=rfl
@[go_sem] theorem scalars_box (cs : List AV) : Row.scalars (.box cs) = cs.all AV.scalar:=rfl
@[go_sem] theorem scalars_arr (sz : Nat) (es : List AV) : Row.scalars (.arr sz es) = true:=rfl
@[go_sem] theorem scalars_mp (k : IntKind) (kv : List (Int × AV)) : Row.scalars (.mp k kv) = true:=rfl
@[go_sem] theorem scalars_mpS (ks : List Bool) (keys : List (List AV)) (vals : List AV) : Row.scalars (.mpS ks keys vals) = true:=rfl
@[go_sem] theorem scalars_mpV (k : IntKind) (kv : List (Int × AV)) : Row.scalars (.mpV k kv) = true:=rfl
@[go_sem] theorem scalars_iter (l : List (AV × AV)) (c : Option (AV × AV)) : Row.scalars (.iter l c) = true:=rfl
@[go_sem] theorem rep_0 {α : Type} (a : α) : List.replicate 0 a = []:=rfl
@[go_sem] theorem rep_1 {α : Type} (a : α) : List.replicate 1 a = [a]:=rfl
@[go_sem] theorem rep_2 {α : Type} (a : α) : List.replicate 2 a = [a,a]:=rfl
@[go_sem] theorem rep_3 {α : Type} (a : α) : List.replicate 3 a = [a,a,a]:=rfl
@[go_sem] theorem rep_4 {α : Type} (a : α) : List.replicate 4 a = [a,a,a,a]:=rfl
@[go_sem] theorem rep_5 {α : Type} (a : α) : List.replicate 5 a = [a,a,a,a,a]:=rfl
@[go_sem] theorem rep_6 {α : Type} (a : α) : List.replicate 6 a = [a,a,a,a,a,a]:=rfl
@[go_sem] theorem rep_7 {α : Type} (a : α) : List.replicate 7 a = [a,a,a,a,a,a,a]:=rfl
@[go_sem] theorem rep_8 {α : Type} (a : α) : List.replicate 8 a = [a,a,a,a,a,a,a,a]:=rfl
@[go_sem] theorem imArgs_nil (n : Nat) : imArgs n [] = ([],[],[],n):=rfl
attribute [go_sem] getO.eq_1 getO.eq_2 lk.eq_1 lk.eq_2 putT.eq_1 putT.eq_2 updRows.eq_1 updRows.eq_2 updRows.eq_3 splice.eq_1 del.eq_1 del.eq_2 disj.eq_1 Foot.apart.eq_1 frzDepth.eq_1 gone.eq_1 imL.eq_1 imL.eq_2 nodup.eq_1 nodup.eq_2 rowsWr.eq_1 enumFrom.eq_1 enumFrom.eq_2 nmTm.eq_1 nmTm.eq_2 nmCells.eq_1 nmCells.eq_2 canon.eq_1 canon2.eq_1 kvGet.eq_1 kvGet.eq_2 kvSet.eq_1 kvSet.eq_2 siteWidth.eq_1
 List.headD_cons List.headD_nil List.tail_cons List.tail_nil List.all_cons List.all_nil List.length_cons List.length_nil List.map_cons List.map_nil List.contains_cons List.contains_nil List.append_nil List.nil_append List.cons_append List.any_cons List.any_nil
 List.drop_zero List.take_length List.flatMap_cons List.flatMap_nil List.filter_cons List.filter_nil List.set_cons_zero List.set_cons_succ List.set_nil List.getElem?_cons_zero List.getElem?_cons_succ List.drop_succ_cons List.drop_nil List.take_succ_cons List.take_zero List.take_nil List.length_append List.foldl_cons List.foldl_nil
 Bool.and_true Bool.true_and Bool.or_true Bool.true_or Bool.or_false Bool.false_or Bool.not_true Bool.not_false Bool.false_and Bool.and_false if_true if_false ite_true ite_false and_true true_and and_self beq_self_eq_true reduceCtorEq ne_eq not_true_eq_false not_false_eq_true
 or_true true_or or_false false_or or_self false_and and_false decide_true decide_false Int.toNat_natCast Nat.zero_add Nat.add_zero List.length_map
attribute [go_sem] Nat.reduceAdd Nat.reduceMul Nat.reduceSub Nat.reduceEqDiff Nat.reduceLeDiff Nat.reduceLT Nat.reduceBEq Int.reduceLT Int.reduceLE Int.reduceEq Int.reduceNe Int.reduceAdd Int.reduceSub Int.reduceMul Int.reduceNeg Int.reduceToNat
 grd_pos
attribute [go_sem ↓] reduceIte grd_pos grdT_tt
section
variable {R : Nat → Option Row}
attribute [go_sem] yieldStep.eq_1 yieldStep.eq_2 setPs.eq_1 setPs.eq_2
def yieldW (s q m : Nat) (k : Option Nat) (ids : List Nat) (p : Bool × List (List AV)) : Option Eff :=
 if ids.contains m then none else some ⟨.bool p.1,(q,some (.num s)) :: (m,none) :: (s,some (.log k p.2)) :: gone ids,q :: m :: ids⟩
def yieldL (s : Nat) (R : Nat → Option Row) (q m : Nat) (vs : List AV) : Row → Option Eff
 | .log k xs => obind (frzL (frz R frzDepth) vs) fun p=>obind (yieldStep k xs p.1) (yieldW s q m k p.2)
 | _ => none
def yieldN (s : Nat) (R : Nat → Option Row) (q : Nat) (vs : List AV) : Row → Option Eff
 | .num m => obind (R m) (yieldL s R q m vs)
 | _ => none
attribute [go_sem] yieldW.eq_1 yieldL.eq_1 yieldN.eq_1
@[go_sem] theorem ev_yield (s q : Nat) (vs : List AV) : evYield s R q vs = obind (R q) (yieldN s R q vs):=by
 unfold evYield;cases R q with
 | none => rfl
 | some r =>
  cases r <;> try rfl
  rename_i m;simp only [obind,yieldN];cases R m with
  | none => rfl
  | some r2 =>
   cases r2 <;> try rfl
   rename_i k xs;simp only [yieldL];cases frzL (frz R frzDepth) vs with
   | none => rfl
   | some p =>
    simp only [obind];cases yieldStep k xs p.1 <;> rfl
def lendM (q m : Nat) : Row → Option Lent
 | .log k xs => some ⟨[.ylog k xs],[q,m],[],[q]⟩
 | _ => none
def lendN (R : Nat → Option Row) (q : Nat) : Row → Option Lent
 | .num m => obind (R m) (lendM q m)
 | _ => none
attribute [go_sem] lendM.eq_1 lendN.eq_1
@[go_sem] theorem lendLog_eq (q : Nat) : lendLog R q = obind (R q) (lendN R q):=by
 unfold lendLog;cases R q with
 | none => rfl
 | some r =>
  cases r <;> try rfl
  rename_i m;simp only [obind,lendN];cases R m with
  | none => rfl
  | some r2 => cases r2 <;> rfl
end
end Go.Abs
