/-
 An abstract interpreter for a fragment of the model's code, by plain definitions: values without addresses, calls by value, the order inside a statement and the room of a slice left out. It has definitions, and the lemmas on equality that they need.
-/
import Derived.Calls
import Derived.LoopN
import Derived.Orders
import Derived.Laws.Sem
set_option linter.all false
namespace Go.Abs
inductive AV where
 | int (k : IntKind) (n : Int)
 | bool (b : Bool)
 | any
 | nilS (sz : Nat)
 | const (v : Value)
 | list (sz : Nat) (es : List AV)
 | iptr (e : AV) (off : Nat)
 | ptr (id idx off : Nat)
 | slice (id off len : Nat)
 | mapp (id : Nat)
 | agg (cs : List AV)
 | tuple (vs : List AV)
 | func (f : Nat) (cap : List AV)
 | clip (sz : Nat) (es : List AV)
 | meth (f : Nat) (b : AV)
 | own (sz : Nat) (es : List AV)
 | bor (cs : List AV)
 | borS (sz : Nat) (es : List AV)
 | yieldT (q : Nat)
 | ylog (k : Option Nat) (xs : List (List AV))
 | ownM (ks : List Bool) (keys : List (List AV)) (vals : List AV)
 | itT (id : Nat)
 | tabS (id len : Nat)
 | tabP (id idx off : Nat)
 | inS (id p len : Nat)
 | inP (id p j : Nat)
 | ownT (sz : Nat) (es : List AV)
 | mapI (k : IntKind) (keys : List Int) (vals : List AV)
 | borM (ks : List Bool) (keys : List (List AV)) (vals : List AV)
 | stampT (id : Nat)
 deriving Inhabited
inductive Row where
 | arr (sz : Nat) (es : List AV)
 | box (cs : List AV)
 | mp (k : IntKind) (kv : List (Int × AV))
 | num (m : Nat)
 | log (k : Option Nat) (xs : List (List AV))
 | mpS (ks : List Bool) (keys : List (List AV)) (vals : List AV)
 | mpV (k : IntKind) (kv : List (Int × AV))
 | iter (left : List (AV × AV)) (cur : Option (AV × AV))
 | mpE (ks : List Bool) (keys : List (List AV)) (vals : List AV) (i s : Nat)
 | tab (sz : Nat) (es : List AV)
 deriving Inhabited
def AV.cells : AV → List AV
 | .agg cs => cs
 | v => [v]
inductive AOpd where
 | tmp (t : Nat)
 | lit (v : AV)
 deriving Inhabited
inductive AOp where
 | mv (x : AOpd)
 | pick (c a b : AOpd)
 | alloc (cs : List AV)
 | box (x : AOpd)
 | build (zero : List AV) (parts : List (Nat × Nat × AOpd))
 | mkList (sz : Nat) (zero : AV) (len : Nat) (parts : List (Nat × AOpd))
 | load (n : Nat) (ag : Bool) (a : AOpd)
 | store (n : Nat) (a x : AOpd)
 | nilCk (x : AOpd)
 | bin (op : BinOp) (x y : AOpd)
 | eq (neg : Bool) (ks : Option (List Bool)) (x y : AOpd)
 | un (op : UnOp) (x : AOpd)
 | conv (k : IntKind) (x : AOpd)
 | fn (f : Nat) (cap : List AOpd)
 | meth (f : Nat) (x : AOpd)
 | stuck
 | isNil (neg : Bool) (x : AOpd)
 | clear (sz : Nat) (zero : AV) (x : AOpd)
 | slice3 (sz : Nat) (x : AOpd) (lo : Option AOpd) (hi mx : AOpd)
 | mkSlice (sz : Nat) (zero : AV) (n c : AOpd)
 | slice (sz : Nat) (x : AOpd) (lo hi : Option AOpd)
 | fieldA (off : Nat) (x : AOpd)
 | field (off n : Nat) (ag : Bool) (x : AOpd)
 | indexA (sz : Nat) (x i : AOpd)
 | indexP (len sz : Nat) (x i : AOpd)
 | index (len sz : Nat) (ag : Bool) (x i : AOpd)
 | extract (x : AOpd) (i : Nat)
 | len (x : AOpd)
 | minmax (isMax : Bool) (xs : List AOpd)
 | append (sz : Nat) (d x : AOpd)
 | call (f : AOpd) (args : List AOpd) (bor : List Nat)
 | mkMap (k : IntKind)
 | mapSet (k : IntKind) (m key x : AOpd)
 | mapGet (k : IntKind) (zero : AV) (ok : Bool) (m key : AOpd)
 | mkMapS (ks : List Bool)
 | mapSetS (ks : List Bool) (m key x : AOpd)
 | mapGetS (ks : List Bool) (zero : AV) (ok : Bool) (m key : AOpd)
 | mkMapV (k : IntKind)
 | mapSetV (k : IntKind) (m key x : AOpd)
 | rangeI (m : AOpd)
 | entry (it : AOpd)
 | capN (x : AOpd)
 | copyB (sz : Nat) (d x : AOpd)
 | appZ (sz : Nat) (zero : AV) (d n : AOpd)
 | mkTab (sz : Nat) (parts : List AOpd)
 | appTab (sz : Nat) (d x : AOpd)
 | mapLen (m : AOpd)
 | mapDel (k : IntKind) (m key : AOpd)
 | mapEnt (ks : List Bool) (zero : AV) (m key : AOpd)
 | entSt (m st x : AOpd)
 | strLen (x : AOpd)
 | strAt (x i : AOpd)
 | strEq (neg : Bool) (x y : AOpd)
 | strId (x : AOpd)
 | strOf (x : AOpd)
 | prim (f : List AV → Option AV) (xs : List AOpd)
 deriving Inhabited
structure AOper where
 dst : Option Nat
 op : AOp
 guard : Option (Nat × Bool)
 deriving Inhabited
inductive ACode where
 | skip
 | region (ops : List AOper) (draw : Bool) (bef : List (List Nat)) (keep : List Nat)
 | regionX (ops : List AOper) (bef : List (List Nat)) (keep : List Nat)
 | seq (a b : ACode)
 | cond (c : AOpd) (thn els : ACode)
 | block (id : Nat) (body : ACode)
 | loop (keep : List Nat) (body : ACode)
 | exit (id : Nat)
 | ret
 | rangeF (f : AOpd) (params : List Nat) (assign body : ACode) (keep : List Nat)
 | norm (keep : List Nat)
 | rangeM (keep : List Nat) (it nx more : Nat) (body : ACode)
 deriving Inhabited
inductive ARes where
 | tmp (t : Nat)
 | cell (t n : Nat) (ag : Bool)
 deriving Inhabited
structure AFn where
 nargs : Nat
 results : List ARes
 body : ACode
 deriving Inhabited
def lk {α : Type} (k : Nat) : List (Nat × α) → Option α
 | [] => none
 | (j,v) :: r => if j = k then some v else lk k r
def del {α : Type} (k : Nat) : List (Nat × α) → List (Nat × α)
 | [] => []
 | (j,v) :: r => if j = k then del k r else (j,v) :: del k r
structure Eff where
 v : AV
 wr : List (Nat × Option Row)
 rd : List Nat
 deriving Inhabited
def Eff.pure (v : AV) : Eff:=⟨v,[],[]⟩
def gone (ids : List Nat) : List (Nat × Option Row):=ids.map fun i=>(i,none)
def mapO {α β : Type} (f : α → Option β) : List α → Option (List β)
 | [] => some []
 | x :: r => match f x with
  | none => none
  | some y => match mapO f r with
   | none => none
   | some ys => some (y :: ys)
def part (ag : Bool) (off n : Nat) (cs : List AV) : Option AV :=
 if off + n≤cs.length then
  if ag then some (.agg ((cs.drop off).take n)) else cs[off]?
 else none
def AV.scalar : AV → Bool
 | .any | .agg _ | .tuple _ | .own .. | .bor _ | .borS .. | .ylog .. | .clip .. | .ownM .. | .ownT .. | .borM .. | .stampT _ => false
 | .const v => v.oneCell'
 | _ => true
def AV.plain1 : AV → Bool
 | .int .. | .bool _ => true
 | _ => false
def AV.plain : AV → Bool
 | .agg cs => cs.all AV.plain1
 | v => v.plain1
def AV.mpVal : AV → Bool
 | .agg cs => cs.all AV.plain1
 | .func _ cs => cs.isEmpty
 | v => v.plain1
def kvK (kv : List (Int × AV)) : List (List AV):=kv.map fun x=>[.int .i64 x.1]
def kvV (kv : List (Int × AV)) : List AV:=kv.map (·.2)
def mpKeyI : List AV → Int
 | [.int _ n] => n
 | _ => 0
def kvOf (keys : List (List AV)) (vals : List AV) : List (Int × AV):=(keys.map mpKeyI).zip vals
theorem kvOf_kv : ∀ kv : List (Int × AV),kvOf (kvK kv) (kvV kv) = kv
 | [] => rfl
 | x :: r => by
  have:=kvOf_kv r;unfold kvOf kvK kvV at this ⊢;simp only [List.map_cons,List.zip_cons_cons,this];rfl
def mapRow (ks : List Bool) (keys : List (List AV)) (vals : List AV) : Row:=match ks with
 | [] => .mp .i64 (kvOf keys vals)
 | b :: ks => .mpS (b :: ks) keys vals
def Row.asM : Row → Option (List Bool × List (List AV) × List AV)
 | .mp k kv => if k = .i64 then some ([],kvK kv,kvV kv) else none
 | .mpS (b :: ks) keys vals => some (b :: ks,keys,vals)
 | _ => none
def AV.tabFz : AV → AV
 | .own sz es => .list sz es
 | v => v
def AV.tabFe : AV → AV
 | .agg cs => .agg (cs.map AV.tabFz)
 | v => v.tabFz
def frzL (f : AV → Option (AV × List Nat)) : List AV → Option (List AV × List Nat)
 | [] => some ([],[])
 | c :: r => match f c with
  | none => none
  | some (c',i) => match frzL f r with
   | none => none
   | some (r',j) => some (c' :: r',i ++ j)
def frz (R : Nat → Option Row) : Nat → AV → Option (AV × List Nat)
 | 0,_ => none
 | d + 1,v => match v with
  | .int .. | .bool _ | .any | .const _ | .list .. | .iptr .. | .mapI .. => some (v,[])
  | .nilS sz => some (.list sz [],[])
  | .clip sz es => some (.list sz es,[])
  | .slice id off len => match R id with
   | some (.arr sz es) => if off + len≤es.length then some (.list sz ((es.drop off).take len),[id]) else none
   | _ => none
  | .ptr id idx off => match R id with
   | some (.box cs) => if idx = 0 then match frzL (frz R d) cs with
     | some (cs',ids) => some (.iptr (.agg cs') off,id :: ids)
     | none => none
    else none
   | some (.arr _ es) => match es[idx]? with
    | some e => some (.iptr e off,[id])
    | none => none
   | _ => none
  | .tabS id len => match R id with
   | some (.tab sz es) => if len = es.length then some (.list sz (es.map AV.tabFe),[id]) else none
   | _ => none
  | .inS id p len => match R id with
   | some (.tab _ es) => match (es.flatMap AV.cells)[p]? with
    | some (.own sz xs) => if len≤xs.length then some (.list sz (xs.take len),[id]) else none
    | _ => none
   | _ => none
  | .agg cs => match frzL (frz R d) cs with
   | some (cs',ids) => some (.agg cs',ids)
   | none => none
  | .func f cap => match frzL (frz R d) cap with
   | some (cs',ids) => some (.func f cs',ids)
   | none => none
  | .meth f b => match frz R d b with
   | some (b',ids) => some (.meth f b',ids)
   | none => none
  | .mapp id => match R id with
   | some (.mp k kv) => some (.mapI k (kv.map (·.1)) (kv.map (·.2)),[id])
   | _ => none
  | _ => none
def frzDepth : Nat:=6
structure Ex where
 v : AV
 mv : List Nat
 fz : List Nat
def exCell (R : Nat → Option Row) (v : AV) : Option Ex :=
 match v with
 | .nilS sz => some ⟨.own sz [],[],[]⟩
 | .slice id off len => match R id with
  | some (.arr sz es) =>
   if off = 0∧len = es.length then some ⟨.own sz es,[id],[]⟩
   else if off = 0∧len≤es.length then some ⟨.own sz (es.take len),[id],[]⟩
   else if off + len≤es.length then some ⟨.list sz ((es.drop off).take len),[],[id]⟩ else none
  | _ => none
 | .agg _ | .tuple _ => none
 | .clip sz es => some ⟨.clip sz es,[],[]⟩
 | .mapp id => match R id with
  | some r => match r.asM with
   | some (ks,keys,vals) => some ⟨.ownM ks keys vals,[id],[]⟩
   | none => none
  | none => none
 | .tabS id len => match R id with
  | some (.tab sz es) => if len = es.length then some ⟨.ownT sz es,[id],[]⟩ else none
  | _ => none
 | v => match frz R frzDepth v with
  | some (v',ids) => some ⟨v',[],ids⟩
  | none => none
def exL (f : AV → Option Ex) : List AV → Option (List AV × List Nat × List Nat)
 | [] => some ([],[],[])
 | c :: r => match f c with
  | none => none
  | some x => match exL f r with
   | none => none
   | some (vs,m,z) => some (x.v :: vs,x.mv ++ m,x.fz ++ z)
def exItem (R : Nat → Option Row) (v : AV) : Option Ex :=
 match v with
 | .agg cs => match exL (exCell R) cs with
  | some (cs',m,z) => some ⟨.agg cs',m,z⟩
  | none => none
 | v => exCell R v
def exRes (R : Nat → Option Row) (v : AV) : Option Ex :=
 match v with
 | .tuple vs => match exL (exItem R) vs with
  | some (cs',m,z) => some ⟨.tuple cs',m,z⟩
  | none => none
 | v => exItem R v
def imCell (n : Nat) (v : AV) : AV × List (Nat × Row) × Nat :=
 match v with
 | .own sz es => (.slice n 0 es.length,[(n,.arr sz es)],n + 1)
 | .ownM ks keys vals => (.mapp n,[(n,mapRow ks keys vals)],n + 1)
 | .ownT sz es => (.tabS n es.length,[(n,.tab sz es)],n + 1)
 | v => (v,[],n)
def imL (f : Nat → AV → AV × List (Nat × Row) × Nat) (n : Nat) : List AV → List AV × List (Nat × Row) × Nat
 | [] => ([],[],n)
 | c :: r =>
  let x:=f n c
  let y:=imL f x.2.2 r
  (x.1 :: y.1,x.2.1 ++ y.2.1,y.2.2)
def imItem (n : Nat) (v : AV) : AV × List (Nat × Row) × Nat :=
 match v with
 | .agg cs => let x:=imL imCell n cs; (.agg x.1,x.2.1,x.2.2)
 | v => imCell n v
def imRes (n : Nat) (v : AV) : AV × List (Nat × Row) × Nat :=
 match v with
 | .tuple cs => let x:=imL imItem n cs; (.tuple x.1,x.2.1,x.2.2)
 | v => imItem n v
def imArg (n : Nat) (v : AV) : AV × List (Nat × Row) × Nat :=
 match v with
 | .bor cs => let x:=imL imCell (n + 1) cs; (.ptr n 0 0,(n,.box x.1) :: x.2.1,x.2.2)
 | .borS sz es => (.slice n 0 es.length,[(n,.arr sz es)],n + 1)
 | .own sz es => (.slice n 0 es.length,[(n,.arr sz es)],n + 1)
 | .borM ks keys vals => (.mapp n,[(n,mapRow ks keys vals)],n + 1)
 | .ylog k xs => (.yieldT n,[(n,.num (n + 1)),(n + 1,.log k xs)],n + 2)
 | v => (v,[],n)
def AV.fresh1 : AV → Bool
 | .own _ es => es.all AV.plain
 | .ownM .. => true
 | .ownT .. => true
 | v => v.plain1
def AV.fresh2 : AV → Bool
 | .agg cs => cs.all AV.fresh1
 | v => v.fresh1
def AV.fresh : AV → Bool
 | .tuple vs => vs.all AV.fresh2
 | v => v.fresh2
def AV.freshOut : AV → Bool
 | .bor cs => cs.all AV.fresh1
 | .borS _ es => es.all AV.plain
 | .borM .. => true
 | _ => false
def binI (op : BinOp) (k : IntKind) (x : Int) (k' : IntKind) (y : Int) : Option AV :=
 match op with
 | .shl => if y < 0 then none else some (.int k (k.wrap (x * 2 ^ min y.toNat k.bits)))
 | .shr => if y < 0 then none else some (.int k (x.fdiv (2 ^ min y.toNat k.bits)))
 | op => if k ≠ k' then none else match op with
  | .add => some (.int k (k.wrap (x + y)))
  | .sub => some (.int k (k.wrap (x - y)))
  | .mul => some (.int k (k.wrap (x * y)))
  | .quo => if y = 0 then none else some (.int k (k.wrap (x.tdiv y)))
  | .rem => if y = 0 then none else some (.int k (x.tmod y))
  | .and => some (.int k (k.wrap (BitVec.ofInt k.bits x &&& BitVec.ofInt k.bits y).toNat))
  | .or => some (.int k (k.wrap (BitVec.ofInt k.bits x ||| BitVec.ofInt k.bits y).toNat))
  | .xor => some (.int k (k.wrap (BitVec.ofInt k.bits x ^^^ BitVec.ofInt k.bits y).toNat))
  | .andNot => some (.int k (k.wrap (BitVec.ofInt k.bits x &&& ~~~ BitVec.ofInt k.bits y).toNat))
  | .eql => some (.bool (x == y))
  | .neq => some (.bool (x != y))
  | .lss => some (.bool (x < y))
  | .leq => some (.bool (x≤y))
  | .gtr => some (.bool (x > y))
  | .geq => some (.bool (x ≥ y))
  | _ => none
def isNeq : BinOp → Bool
 | .neq => true
 | _ => false
def eqCells : List Bool → List AV → List AV → Option Bool
 | [],[],[] => some true
 | true :: s,.int k a :: r,.int k' b :: r' => if k ≠ k' then none else match eqCells s r r' with
  | some q => some (a == b && q)
  | none => none
 | false :: s,.bool a :: r,.bool b :: r' => match eqCells s r r' with
  | some q => some (a == b && q)
  | none => none
 | _,_,_ => none
def kvGet (k : Int) : List (Int × AV) → Option AV
 | [] => none
 | (j,v) :: r => if j = k then some v else kvGet k r
def kvSet (k : Int) (x : AV) : List (Int × AV) → List (Int × AV)
 | [] => [(k,x)]
 | (j,v) :: r => if j = k then (j,x) :: r else (j,v) :: kvSet k x r
def splice (cs : List AV) (off n : Nat) (xs : List AV) : List AV:=cs.take off ++ xs ++ cs.drop (off + n)
def setParts (cs : List AV) : List (Nat × Nat × AV) → Option (List AV)
 | [] => some cs
 | (off,n,v) :: r =>
  if v.cells.length = n∧off + n≤cs.length∧v.cells.all AV.scalar then setParts (splice cs off n v.cells) r else none
def setElems (sz : Nat) (es : List AV) : List (Nat × AV) → Option (List AV)
 | [] => some es
 | (i,v) :: r => if i < es.length∧v.cells.length = sz∧v.cells.all AV.scalar then setElems sz (es.set i v) r else none
def elemsOf (R : Nat → Option Row) (sz : Nat) : AV → Option (List AV × List Nat)
 | .nilS _ => some ([],[])
 | .list sz' es => if sz' = sz then some (es,[]) else none
 | .slice id off len => match R id with
  | some (.arr sz' es) => if sz' = sz∧off + len≤es.length then some ((es.drop off).take len,[id]) else none
  | _ => none
 | .inS id p len => match R id with
  | some (.tab _ es) => match (es.flatMap AV.cells)[p]? with
   | some (.own sz' xs) => if sz' = sz∧len≤xs.length then some (xs.take len,[id]) else none
   | _ => none
  | _ => none
 | _ => none
def roomMax : Nat:=34359738368
structure Lent where
 vs : List AV
 mv : List Nat
 fz : List Nat
 out : List Nat
def lendLog (R : Nat → Option Row) (q : Nat) : Option Lent :=
 match R q with
 | some (.num m) => match R m with
  | some (.log k xs) => some ⟨[.ylog k xs],[q,m],[],[q]⟩
  | _ => none
 | _ => none
def lendArg (R : Nat → Option Row) (lent : Bool) (v : AV) : Option Lent :=
 match v with
 | .yieldT q => lendLog R q
 | v => if lent then match v with
  | .ptr id 0 0 => match R id with
   | some (.box cs) => match exL (exCell R) cs with
    | some (cs',m,z) => some ⟨[.bor cs'],id :: m,z,[id]⟩
    | none => none
   | _ => none
  | .slice id 0 len => match R id with
   | some (.arr sz es) => if len = es.length then some ⟨[.borS sz es],[id],[],[id]⟩ else none
   | _ => none
  | .mapp id => match R id with
   | some r => match r.asM with
    | some (ks,keys,vals) => some ⟨[.borM ks keys vals],[id],[],[id]⟩
    | none => none
   | none => none
  | _ => none
 else match frz R frzDepth v with
  | some (v',ids) => some ⟨[v'],[],ids,[]⟩
  | none => none
def giveArg (R : Nat → Option Row) (v : AV) : Option Lent :=
 match v with
 | .slice id 0 len => match R id with
  | some (.arr sz es) => if len = es.length then some ⟨[.own sz es],[id],[],[]⟩ else none
  | _ => none
 | _ => none
def AV.emptySl : AV → Bool
 | .slice _ _ 0 => true
 | _ => false
def passArg (R : Nat → Option Row) (bor : List Nat) (i : Nat) (v : AV) : Option Lent:=if bor.contains (i + 100) then giveArg R v else lendArg R (bor.contains i && !v.emptySl) v
def lendArgs (R : Nat → Option Row) (bor : List Nat) : Nat → List AV → Option Lent
 | _,[] => some ⟨[],[],[],[]⟩
 | i,v :: r => match passArg R bor i v with
  | none => none
  | some a => match lendArgs R bor (i + 1) r with
   | none => none
   | some b => some ⟨a.vs ++ b.vs,a.mv ++ b.mv,a.fz ++ b.fz,a.out ++ b.out⟩
def nodup : List Nat → Bool
 | [] => true
 | x :: r => !r.contains x && nodup r
def disj (a b : List Nat) : Bool:=a.all fun x=>!b.contains x
def rowsWr (l : List (Nat × Row)) : List (Nat × Option Row):=l.map fun p=>(p.1,some p.2)
def backs (R : Nat → Option Row) (n : Nat) : List Nat → List AV → Option (List (Nat × Option Row) × Nat)
 | [],[] => some ([],n)
 | id :: ids,.bor cs :: vs => match R id with
  | some (.box cs0) => if cs.length = cs0.length then
    let x:=imL imCell n cs
    match backs R x.2.2 ids vs with
    | some (rs',n'') => some ((id,some (.box x.1)) :: (rowsWr x.2.1 ++ rs'),n'')
    | none => none
   else none
  | _ => none
 | id :: ids,.borS sz es :: vs => match R id with
  | some (.arr sz0 es0) => if sz0 = sz∧es.length = es0.length then match backs R n ids vs with
    | some (rs',n'') => some ((id,if es.length = 0 then none else some (.arr sz es)) :: rs',n'')
    | none => none
   else none
  | _ => none
 | id :: ids,.borM ks keys vals :: vs => match (R id).bind Row.asM with
  | some _ => match backs R n ids vs with
   | some (rs',n'') => some ((id,some (mapRow ks keys vals)) :: rs',n'')
   | none => none
  | none => none
 | id :: ids,.ylog k xs :: vs => match R id with
  | some (.num _) => match backs R (n + 1) ids vs with
   | some (rs',n'') => some ((id,some (.num n)) :: (n,some (.log k xs)) :: rs',n'')
   | none => none
  | _ => none
 | _,_ => none
def reElem (e : AV) (cs : List AV) : Option AV :=
 match e with
 | .agg _ => some (.agg cs)
 | _ => match cs with
  | [c] => some c
  | _ => none
abbrev CallF:=Nat → List AV → Option (AV × List AV)
def siteWidth : Nat:=32
def mkPart (g : AOpd → Option AV) (R : Nat → Option Row) (p : Nat × AOpd) : Option (Nat × AV × List Nat) :=
 match g p.2 with
 | some v => match frz R frzDepth v with
  | some (v',ids) => some (p.1,v',ids)
  | none => none
 | none => none
def evMkList (s : Nat) (g : AOpd → Option AV) (R : Nat → Option Row) (sz : Nat) (zero : AV) (len : Nat) (parts : List (Nat × AOpd)) : Option Eff :=
 match mapO (mkPart g R) parts with
 | some ps =>
  match setElems sz (List.replicate len zero) (ps.map fun p=>(p.1,p.2.1)) with
  | some es => if len = 0 then some (.pure (.nilS sz)) else
    some ⟨.slice s 0 len,(s,some (.arr sz es)) :: gone (ps.flatMap fun p=>p.2.2),ps.flatMap fun p=>p.2.2⟩
  | none => none
 | none => none
def tabCells (id : Nat) : Nat → List AV → List AV
 | _,[] => []
 | p,.own _ xs :: cs => .inS id p xs.length :: tabCells id (p + 1) cs
 | p,c :: cs => c :: tabCells id (p + 1) cs
def evLoad (g : AOpd → Option AV) (R : Nat → Option Row) (n : Nat) (ag : Bool) (a : AOpd) : Option Eff :=
 match g a with
 | some (.iptr e off) => match part ag off n e.cells with
  | some v => some (.pure v)
  | none => none
 | some (.ptr id idx off) => match R id with
  | some (.arr _ es) => match es[idx]? with
   | some e => match part ag off n e.cells with
    | some v => some ⟨v,[],[id]⟩
    | none => none
   | none => none
  | some (.box cs) => if idx = 0 then match part ag off n cs with
    | some v => some ⟨v,[],[id]⟩
    | none => none
   else none
  | _ => none
 | some (.tabP id idx off) => match R id with
  | some (.tab sz es) => match es[idx]? with
   | some e => match part ag off n (tabCells id (idx * sz) e.cells) with
    | some v => some ⟨v,[],[id]⟩
    | none => none
   | none => none
  | _ => none
 | some (.inP id p j) => match R id with
  | some (.tab _ es) => match (es.flatMap AV.cells)[p]? with
   | some (.own _ xs) => match xs[j]? with
    | some x => if n = 1∧ag = false then some ⟨x,[],[id]⟩ else none
    | none => none
   | _ => none
  | _ => none
 | _ => none
def tabSet1 (p : Nat) (c : AV) : AV → AV
 | .agg cs => .agg (cs.set p c)
 | _ => c
def tabSet (p : Nat) (c : AV) : List AV → List AV
 | [] => []
 | e :: es => if p < e.cells.length then tabSet1 p c e :: es else e :: tabSet (p - e.cells.length) c es
def evStore (g : AOpd → Option AV) (R : Nat → Option Row) (n : Nat) (a x : AOpd) : Option Eff :=
 match g a,g x with
 | some (.ptr id idx off),some v =>
  if v.cells.length = n∧v.cells.all AV.scalar then
   match R id with
   | some (.arr sz es) => match es[idx]? with
    | some e => if off + n≤e.cells.length then
      match frzL (frz R frzDepth) v.cells with
      | some (xs,ids) => match reElem e (splice e.cells off n xs) with
       | some e' => if ids.contains id then none else some ⟨.tuple [],(id,some (.arr sz (es.set idx e'))) :: gone ids,id :: ids⟩
       | none => none
      | none => none
     else none
    | none => none
   | some (.box cs) => if idx = 0∧off + n≤cs.length then some ⟨.tuple [],[(id,some (.box (splice cs off n v.cells)))],[id]⟩ else none
   | _ => none
  else none
 | some (.inP id p j),some v => match R id with
  | some (.tab sz es) => match (es.flatMap AV.cells)[p]? with
   | some (.own q xs) => if n = 1∧j < xs.length∧v.plain1 = true then some ⟨.tuple [],[(id,some (.tab sz (tabSet p (.own q (xs.set j v)) es)))],[id]⟩ else none
   | _ => none
  | _ => none
 | _,_ => none
def AV.isNil : AV → Bool
 | .nilS _ => true
 | .const (.slice none 0 0) => true
 | _ => false
def evAppZ (s : Nat) (g : AOpd → Option AV) (sz : Nat) (zero : AV) (d n : AOpd) : Option Eff :=
 match g d,g n with
 | some v,some (.int .i64 m) => if v.isNil = true∧0 < m∧m≤1000000 then some ⟨.slice s 0 m.toNat,[(s,some (.arr sz (List.replicate m.toNat zero)))],[]⟩ else none
 | _,_ => none
def evAppW (s : Nat) (R : Nat → Option Row) (sz : Nat) (zero : AV) (d : AV) (m : Int) : Option Eff :=
 match d with
 | .slice id 0 len => match R id with
  | some (.arr sz' es) => if sz' = sz∧len = es.length∧0 < len∧len≤1000000∧0≤m∧m≤1000000 then
    some ⟨.slice s 0 (len + m.toNat),[(s,some (.arr sz (es ++ List.replicate m.toNat zero))),(id,none)],[id]⟩ else none
  | _ => none
 | _ => none
def evAppY (s : Nat) (g : AOpd → Option AV) (R : Nat → Option Row) (sz : Nat) (zero : AV) (d n : AOpd) : Option Eff :=
 match g d,g n with
 | some v,some (.int .i64 m) => if v.isNil = true then evAppZ s g sz zero d n else evAppW s R sz zero v m
 | _,_ => none
def evCapN (g : AOpd → Option AV) (x : AOpd) : Option Eff :=
 match g x with
 | some v => if v.isNil = true then some (.pure (.int .i64 0)) else none
 | none => none
def evSlice (g : AOpd → Option AV) (sz : Nat) (R : Nat → Option Row) (x : AOpd) (lo hi : Option AOpd) : Option Eff :=
 match g x,(match lo with | none => some (AV.int .i64 0) | some o => g o) with
 | some v,some (.int _ l) => match v,(match hi with | none => some none | some o => (g o).map some) with
  | .slice id off len,some h => match R id with
   | some (.arr sz' _) => match (match h with | none => some (len : Int) | some (.int _ h) => some h | _ => none) with
    | some h => if sz' = sz∧0≤l∧l≤h∧h≤len then some ⟨.slice id (off + l.toNat) (h - l).toNat,[],[id]⟩ else none
    | none => none
   | _ => none
  | .list sz' es,some h => match (match h with | none => some (es.length : Int) | some (.int _ h) => some h | _ => none) with
   | some h => if sz' = sz∧0≤l∧l≤h∧h≤es.length then some (.pure (.list sz ((es.drop l.toNat).take (h - l).toNat))) else none
   | none => none
  | v,some h => if v.isNil = true then match (match h with | none => some (0 : Int) | some (.int _ h) => some h | _ => none) with
   | some h => if l = 0∧h = 0 then some (.pure v) else none
   | none => none
   else none
  | _,_ => none
 | _,_ => none
def evIndexA (g : AOpd → Option AV) (R : Nat → Option Row) (sz : Nat) (x i : AOpd) : Option Eff :=
 match g x,g i with
 | some (.slice id off len),some (.int _ n) => match R id with
  | some (.arr sz' _) =>
   if sz' = sz∧0≤n∧n < len then some ⟨.ptr id (off + n.toNat) 0,[],[id]⟩ else none
  | _ => none
 | some (.list sz' es),some (.int _ n) =>
  if sz' = sz∧0≤n then match es[n.toNat]? with
   | some e => some (.pure (.iptr e 0))
   | none => none
  else none
 | some (.tabS id len),some (.int _ n) => match R id with
  | some (.tab sz' _) => if sz' = sz∧0≤n∧n < len then some ⟨.tabP id n.toNat 0,[],[id]⟩ else none
  | _ => none
 | some (.inS id p len),some (.int _ n) => match R id with
  | some (.tab _ _) => if sz = 1∧0≤n∧n < len then some ⟨.inP id p n.toNat,[],[id]⟩ else none
  | _ => none
 | _,_ => none
def unNil : AV → AV
 | .const (.slice none 0 0) => .nilS 0
 | v => v
def evAppend (s : Nat) (g : AOpd → Option AV) (R : Nat → Option Row) (sz : Nat) (d x : AOpd) : Option Eff :=
 match g d,g x with
 | some dv,some xv => match elemsOf R sz xv with
  | some (xs,ids) =>
   match unNil dv with
   | .nilS _ => if xs.length≤roomMax then some ⟨.slice s 0 xs.length,[(s,some (.arr sz xs))],ids⟩ else none
   | .slice id off len => match R id with
    | some (.arr sz' es) =>
     if sz' = sz∧off = 0 then
      if len = es.length then
       if len + xs.length≤roomMax then
        some ⟨.slice s 0 (len + xs.length),[(s,some (.arr sz (es ++ xs))),(id,none)],id :: ids⟩
       else none
      else if len + xs.length≤es.length then
       some ⟨.slice id 0 (len + xs.length),[(id,some (.arr sz (es.take len ++ xs ++ es.drop (len + xs.length))))],id :: ids⟩
      else none
     else none
    | _ => none
   | .clip sz' es => if sz' = sz∧xs.length ≠ 0∧es.length + xs.length≤roomMax then some ⟨.slice s 0 (es.length + xs.length),[(s,some (.arr sz (es ++ xs)))],ids⟩ else none
   | _ => none
  | none => none
 | _,_ => none
def tabIn (R : Nat → Option Row) : AV → Option (AV × List Nat)
 | .nilS _ => some (.own 1 [],[])
 | .slice id 0 len => match R id with
  | some (.arr 1 es) => if len = es.length∧es.all AV.plain1 = true then some (.own 1 es,[id]) else none
  | _ => none
 | v => if v.plain1 = true then some (v,[]) else none
def tabEl (R : Nat → Option Row) (v : AV) : Option (AV × List Nat) :=
 match v with
 | .agg cs => match frzL (tabIn R) cs with
  | some (cs',ids) => some (.agg cs',ids)
  | none => none
 | v => tabIn R v
def evMkTab (s : Nat) (g : AOpd → Option AV) (R : Nat → Option Row) (sz : Nat) (parts : List AOpd) : Option Eff :=
 match mapO g parts with
 | some vs => match frzL (tabEl R) vs with
  | some (es,ids) => if (es.all fun e=>e.cells.length == sz) && nodup ids then some ⟨.tabS s es.length,(s,some (.tab sz es)) :: gone ids,ids⟩ else none
  | none => none
 | none => none
def evAppTab (s : Nat) (g : AOpd → Option AV) (R : Nat → Option Row) (sz : Nat) (d x : AOpd) : Option Eff :=
 match g d,g x with
 | some (.tabS i n),some (.tabS j m) => match R i,R j with
  | some (.tab sz1 es),some (.tab sz2 xs) => if sz1 = sz∧sz2 = sz∧n = es.length∧m = xs.length∧i ≠ j∧n + m≤roomMax then
    some ⟨.tabS s (n + m),[(s,some (.tab sz (es ++ xs))),(i,none),(j,none)],[i,j]⟩ else none
  | _,_ => none
 | _,_ => none
def nilEq : Value → Value → Bool
 | .map none,.map none => true
 | .pointer none,.pointer none => true
 | _,_ => false
mutual
def AV.beq : AV → AV → Bool
 | .int k n,.int k' n' => decide (k = k') && decide (n = n')
 | .bool a,.bool b => a == b
 | .list sz es,.list sz' es' => decide (sz = sz') && AV.beqL es es'
 | .iptr e o,.iptr e' o' => decide (o = o') && AV.beq e e'
 | .agg cs,.agg cs' => AV.beqL cs cs'
 | .func f cs,.func f' cs' => decide (f = f') && AV.beqL cs cs'
 | .meth f b,.meth f' b' => decide (f = f') && AV.beq b b'
 | .const a,.const b => nilEq a b
 | .any,.any => true
 | .nilS n,.nilS n' => decide (n = n')
 | .ptr a b c,.ptr a' b' c' => decide (a = a') && decide (b = b') && decide (c = c')
 | .slice a b c,.slice a' b' c' => decide (a = a') && decide (b = b') && decide (c = c')
 | .mapp a,.mapp a' => decide (a = a')
 | .itT a,.itT a' => decide (a = a')
 | .tuple cs,.tuple cs' => AV.beqL cs cs'
 | .own sz es,.own sz' es' => decide (sz = sz') && AV.beqL es es'
 | .bor cs,.bor cs' => AV.beqL cs cs'
 | .ownM ks keys vals,.ownM ks' keys' vals' => decide (ks = ks') && AV.beqLL keys keys' && AV.beqL vals vals'
 | .ylog k xs,.ylog k' xs' => decide (k = k') && AV.beqLL xs xs'
 | .mapI k keys vals,.mapI k' keys' vals' => decide (k = k') && decide (keys = keys') && AV.beqL vals vals'
 | .borM ks keys vals,.borM ks' keys' vals' => decide (ks = ks') && AV.beqLL keys keys' && AV.beqL vals vals'
 | _,_ => false
def AV.beqL : List AV → List AV → Bool
 | [],[] => true
 | a :: l,b :: l' => AV.beq a b && AV.beqL l l'
 | _,_ => false
def AV.beqLL : List (List AV) → List (List AV) → Bool
 | [],[] => true
 | a :: l,b :: l' => AV.beqL a b && AV.beqLL l l'
 | _,_ => false
end
def yieldStep : Option Nat → List (List AV) → List AV → Option (Bool × List (List AV))
 | none,xs,as => some (true,xs ++ [as])
 | some j,x :: xs,as => if AV.beqL as x then some (!(j == 1 && xs.isEmpty),xs) else none
 | some _,[],_ => none
def evYield (s : Nat) (R : Nat → Option Row) (q : Nat) (vs : List AV) : Option Eff :=
 match R q with
 | some (.num m) => match R m with
  | some (.log k xs) => match frzL (frz R frzDepth) vs with
   | some (vs',ids) => match yieldStep k xs vs' with
    | some (b,xs') => if ids.contains m then none else some ⟨.bool b,(q,some (.num s)) :: (m,none) :: (s,some (.log k xs')) :: gone ids,q :: m :: ids⟩
    | none => none
   | none => none
  | _ => none
 | _ => none
def AV.still1 : AV → AV
 | .own sz es => .list sz es
 | .ownM .. => .any
 | .ownT sz es => .list sz (es.map AV.tabFe)
 | v => v
def AV.still2 : AV → AV
 | .agg cs => .agg (cs.map AV.still1)
 | v => v.still1
def AV.still : AV → AV
 | .tuple vs => .tuple (vs.map AV.still2)
 | v => v.still2
def stillB : Bool → AV → AV
 | true,v => v.still
 | false,v => v
def evCallF (call : CallF) (s : Nat) (R : Nat → Option Row) (bor : List Nat) (f : Nat) (vs : List AV) : Option Eff :=
 match lendArgs R bor 0 vs with
  | some l => if nodup l.mv && disj l.mv l.fz then
    match call f l.vs with
    | some (res0,outs) =>
     let res:=stillB (bor.contains 1000) res0
     let r:=imRes s res
     match backs R r.2.2 l.out outs with
     | some (rs,n) => if n≤s + siteWidth then
       some ⟨r.1,rowsWr r.2.1 ++ rs ++ gone (l.mv.filter fun i=>!l.out.contains i) ++
        (if res.fresh && outs.all AV.freshOut then [] else gone l.fz),l.mv ++ l.fz⟩
      else none
     | none => none
    | none => none
   else none
  | none => none
def evCall (call : CallF) (s : Nat) (g : AOpd → Option AV) (R : Nat → Option Row) (f : AOpd) (args : List AOpd) (bor : List Nat) : Option Eff :=
 match g f,mapO g args with
 | some (.yieldT q),some vs => evYield s R q vs
 | some (.func f cap),some vs => evCallF call s R bor f (vs ++ cap)
 | some (.meth f b),some vs => evCallF call s R bor f (b :: vs)
 | _,_ => none
def evCopy (g : AOpd → Option AV) (R : Nat → Option Row) (sz : Nat) (d x : AOpd) : Option Eff :=
 match g d,g x with
 | some (.slice id off len),some xv => match elemsOf R sz xv with
  | some (xs,ids) => match R id with
   | some (.arr sz' es) => if sz' = sz∧off + len≤es.length then
     if min xs.length len = 0 then some ⟨.int .i64 0,[],id :: ids⟩
     else some ⟨.int .i64 (min xs.length len : Nat),[(id,some (.arr sz (es.take off ++ xs.take (min xs.length len) ++ es.drop (off + min xs.length len))))],id :: ids⟩
    else none
   | _ => none
  | none => none
 | _,_ => none
def evMapSet (g : AOpd → Option AV) (R : Nat → Option Row) (kk : IntKind) (m k x : AOpd) : Option Eff :=
 match g m,g k,g x with
 | some (.mapp id),some (.int kk' n),some v => if v.mpVal∧kk' = kk then match R id with
   | some (.mp k0 kv) => if k0 = kk then some ⟨.tuple [],[(id,some (.mp k0 (kvSet n v kv)))],[id]⟩ else none
   | _ => none
  else none
 | _,_,_ => none
def nilMapV : Value → Bool
 | .map none => true
 | _ => false
def evMapGet (g : AOpd → Option AV) (R : Nat → Option Row) (kk : IntKind) (zero : AV) (ok : Bool) (m k : AOpd) : Option Eff :=
 match g m,g k with
 | some (.mapp id),some (.int kk' n) => if kk' = kk then match R id with
   | some (.mp k0 kv) => if k0 = kk then match kvGet n kv with
     | some v => some ⟨if ok then .tuple [v,.bool true] else v,[],[id]⟩
     | none => some ⟨if ok then .tuple [zero,.bool false] else zero,[],[id]⟩
    else none
   | _ => none
  else none
 | some (.mapI k0 keys vals),some (.int kk' n) => if kk' = kk∧k0 = kk then match kvGet n (keys.zip vals) with
   | some v => some (.pure (if ok then .tuple [v,.bool true] else v))
   | none => some (.pure (if ok then .tuple [zero,.bool false] else zero))
  else none
 | some (.const v),some (.int kk' _) => if kk' = kk∧nilMapV v = true then some (.pure (if ok then .tuple [zero,.bool false] else zero)) else none
 | _,_ => none
def kvDel (n : Int) : List (Int × AV) → List (Int × AV)
 | [] => []
 | x :: l => if x.1 = n then l else x :: kvDel n l
def strB : AV → Option (List UInt8)
 | .const (.string b) => some b.data.toList
 | _ => none
def byteOf : AV → Option UInt8
 | .int .u8 n => if 0≤n∧n < 256 then some (UInt8.ofNat n.toNat) else none
 | _ => none
abbrev strA (l : List UInt8) : AV:=.const (.string ⟨l.toArray⟩)
def evStrLen (g : AOpd → Option AV) (x : AOpd) : Option Eff :=
 match g x with
 | some v => match strB v with
  | some l => some (.pure (.int .i64 l.length))
  | none => none
 | none => none
def evStrAt (g : AOpd → Option AV) (x i : AOpd) : Option Eff :=
 match g x,g i with
 | some v,some (.int _ n) => match strB v with
  | some l => if 0≤n∧n < l.length then some (.pure (.int .u8 (l.getD n.toNat 0).toNat)) else none
  | none => none
 | _,_ => none
def evStrEq (g : AOpd → Option AV) (neg : Bool) (x y : AOpd) : Option Eff :=
 match g x,g y with
 | some v,some u => match strB v,strB u with
  | some l,some m => some (.pure (.bool ((l == m) != neg)))
  | _,_ => none
 | _,_ => none
def evStrId (g : AOpd → Option AV) (x : AOpd) : Option Eff :=
 match g x with
 | some v => match strB v with
  | some l => some (.pure (strA l))
  | none => none
 | none => none
def evStrOf (g : AOpd → Option AV) (R : Nat → Option Row) (x : AOpd) : Option Eff :=
 match g x with
 | some v => match elemsOf R 1 v with
  | some (es,ids) => match mapO byteOf es with
   | some l => some ⟨strA l,[],ids⟩
   | none => none
  | none => none
 | none => none
def evMapLen (g : AOpd → Option AV) (R : Nat → Option Row) (m : AOpd) : Option Eff :=
 match g m with
 | some (.mapp id) => match R id with
  | some (.mp _ kv) => some ⟨.int .i64 kv.length,[],[id]⟩
  | _ => none
 | some (.mapI _ keys vals) => some (.pure (.int .i64 (keys.zip vals).length))
 | _ => none
def evMapDel (g : AOpd → Option AV) (R : Nat → Option Row) (kk : IntKind) (m k : AOpd) : Option Eff :=
 match g m,g k with
 | some (.mapp id),some (.int kk' n) => if kk' = kk then match R id with
   | some (.mp k0 kv) => if k0 = kk then some ⟨.tuple [],[(id,some (.mp k0 (kvDel n kv)))],[id]⟩ else none
   | _ => none
  else none
 | _,_ => none
def okKey : List Bool → List AV → Bool
 | [],[] => true
 | true :: s,.int .i64 _ :: r => okKey s r
 | false :: s,.bool _ :: r => okKey s r
 | _,_ => false
def findS (ks : List Bool) (k : List AV) : List (List AV) → Nat → Option (Option Nat)
 | [],_ => some none
 | j :: r,i => match eqCells ks k j with
  | some true => some (some i)
  | some false => findS ks k r (i + 1)
  | none => none
def evMapSetS (g : AOpd → Option AV) (R : Nat → Option Row) (ks : List Bool) (m k x : AOpd) : Option Eff :=
 match g m,g k,g x with
 | some (.mapp id),some (.agg cs),some v => if v.plain1∧cs.all AV.plain1∧okKey ks cs = true then match R id with
   | some (.mpS k0 keys vals) => if k0 = ks then match findS ks cs keys 0 with
     | some (some i) => some ⟨.tuple [],[(id,some (.mpS k0 keys (vals.set i v)))],[id]⟩
     | some none => some ⟨.tuple [],[(id,some (.mpS k0 (keys ++ [cs]) (vals ++ [v])))],[id]⟩
     | none => none
    else none
   | _ => none
  else none
 | _,_,_ => none
def mapGetR (ks : List Bool) (cs : List AV) (zero : AV) (ok : Bool) (id : Nat) (k0 : List Bool) (keys : List (List AV)) (vals : List AV) : Option Eff :=
 if k0 = ks then match findS ks cs keys 0 with
   | some (some i) => match vals[i]? with
    | some v => some ⟨if ok then .tuple [v,.bool true] else v,[],[id]⟩
    | none => none
   | some none => some ⟨if ok then .tuple [zero,.bool false] else zero,[],[id]⟩
   | none => none
 else none
def evMapGetS (g : AOpd → Option AV) (R : Nat → Option Row) (ks : List Bool) (zero : AV) (ok : Bool) (m k : AOpd) : Option Eff :=
 match g m,g k with
 | some (.mapp id),some (.agg cs) => if cs.all AV.plain1∧okKey ks cs = true then match R id with
   | some (.mpS k0 keys vals) => mapGetR ks cs zero ok id k0 keys vals
   | some (.mpE k0 keys vals _ _) => mapGetR ks cs zero ok id k0 keys vals
   | _ => none
  else none
 | _,_ => none
def evMapSetV (g : AOpd → Option AV) (R : Nat → Option Row) (kk : IntKind) (m k x : AOpd) : Option Eff :=
 match g m,g k,g x with
 | some (.mapp id),some (.int kk' n),some v => if kk' = kk then match R id with
   | some (.mpV k0 kv) => if k0 = kk then match kvGet n kv with
     | none => some ⟨.tuple [],[(id,some (.mpV k0 (kv ++ [(n,v)])))],[id]⟩
     | some _ => none
    else none
   | _ => none
  else none
 | _,_,_ => none
def evMapEnt (s : Nat) (g : AOpd → Option AV) (R : Nat → Option Row) (ks : List Bool) (zero : AV) (m k : AOpd) : Option Eff :=
 match g m,g k with
 | some (.mapp id),some (.agg cs) => if zero.plain1∧cs.all AV.plain1∧okKey ks cs = true∧id ≠ s then match R id with
   | some (.mpS k0 keys vals) => if k0 = ks then match findS ks cs keys 0 with
     | some (some i) => match vals[i]? with
      | some v => some ⟨.tuple [v,.stampT s],[(id,some (.mpE k0 keys vals i s))],[id]⟩
      | none => none
     | some none => some ⟨.tuple [zero,.stampT s],[(id,some (.mpE k0 (keys ++ [cs]) (vals ++ [zero]) keys.length s))],[id]⟩
     | none => none
    else none
   | _ => none
  else none
 | _,_ => none
def evEntSt (g : AOpd → Option AV) (R : Nat → Option Row) (m st x : AOpd) : Option Eff :=
 match g m,g st,g x with
 | some (.mapp id),some (.stampT s),some v => if v.plain1 then match R id with
   | some (.mpE ks keys vals i s') => if s' = s then some ⟨.tuple [],[(id,some (.mpS ks keys (vals.set i v)))],[id]⟩ else none
   | _ => none
  else none
 | _,_,_ => none
def evRangeI (s : Nat) (g : AOpd → Option AV) (R : Nat → Option Row) (m : AOpd) : Option Eff :=
 match g m with
 | some (.mapp id) => match R id with
  | some (.mpV k kv) => if id = s then none else some ⟨.itT s,[(s,some (.iter (kv.map fun p=>(.int k p.1,p.2)) none)),(id,none)],[id]⟩
  | some (.mpS _ keys vals) => if id = s then none else some ⟨.itT s,[(s,some (.iter ((keys.zip vals).map fun p=>(.agg p.1,p.2)) none)),(id,none)],[id]⟩
  | _ => none
 | _ => none
def evEntry (g : AOpd → Option AV) (R : Nat → Option Row) (it : AOpd) : Option Eff :=
 match g it with
 | some (.itT id) => match R id with
  | some (.iter _ (some x)) => some ⟨.tuple [x.1,x.2],[],[id]⟩
  | _ => none
 | _ => none
def maxOf (isMax : Bool) (a b : Int) : Int:=if isMax then (if b > a then b else a) else (if b < a then b else a)
def bdPart (g : AOpd → Option AV) (p : Nat × Nat × AOpd) : Option (Nat × Nat × AV) :=
 match g p.2.2 with
 | some v => some (p.1,p.2.1,v)
 | none => none
def i64Of (g : AOpd → Option AV) (x : AOpd) : Option Int :=
 match g x with
 | some (.int .i64 n) => some n
 | _ => none
def evalOp (call : CallF) (s : Nat) (g : AOpd → Option AV) (R : Nat → Option Row) (op : AOp) : Option Eff :=
 match op with
 | .mv x => match g x with
  | some v => some (.pure v)
  | none => none
 | .pick c a b => match g c with
  | some (.bool true) => match g a with
   | some v => some (.pure v)
   | none => none
  | some (.bool false) => match g b with
   | some v => some (.pure v)
   | none => none
  | _ => none
 | .alloc cs => if cs.all AV.scalar then some ⟨.ptr s 0 0,[(s,some (.box cs))],[]⟩ else none
 | .box x => match g x with
  | some v => if v.cells.all AV.scalar then some ⟨.ptr s 0 0,[(s,some (.box v.cells))],[]⟩ else none
  | none => none
 | .build zero parts => match mapO (bdPart g) parts with
  | some ps => match setParts zero ps with
   | some cs => some (.pure (.agg cs))
   | none => none
  | none => none
 | .mkList sz zero len parts => evMkList s g R sz zero len parts
 | .load n ag a => evLoad g R n ag a
 | .store n a x => evStore g R n a x
 | .nilCk x => match g x with
  | some (.ptr a b c) => some (.pure (.ptr a b c))
  | some (.iptr e o) => some (.pure (.iptr e o))
  | _ => none
 | .bin op x y => match g x,g y with
  | some (.int k a),some (.int k' b) => match binI op k a k' b with
   | some v => some (.pure v)
   | none => none
  | _,_ => none
 | .eq neg ks x y => match ks,g x,g y with
  | none,some (.bool a),some (.bool b) => some (.pure (.bool ((a == b) != neg)))
  | some ks,some (.agg a),some (.agg b) => match eqCells ks a b with
   | some q => some (.pure (.bool (q != neg)))
   | none => none
  | _,_,_ => none
 | .un op x => match op,g x with
  | .neg,some (.int k n) => some (.pure (.int k (k.wrap (0 - n))))
  | .not,some (.bool b) => some (.pure (.bool !b))
  | _,_ => none
 | .conv k x => match g x with
  | some (.int _ n) => some (.pure (.int k (k.wrap n)))
  | _ => none
 | .fn f cap => match mapO g cap with
  | some vs => some (.pure (.func f vs))
  | none => none
 | .meth f x => match g x with
  | some v => some (.pure (.meth f v))
  | none => none
 | .stuck => none
 | .isNil neg x => match g x with
  | some (.nilS _) => none
  | some (.slice _ _ (_ + 1)) => some (.pure (.bool neg))
  | some (.list _ (_ :: _)) => some (.pure (.bool neg))
  | some (.const (.slice none 0 0)) => some (.pure (.bool (!neg)))
  | _ => none
 | .clear sz z x => match g x with
  | some (.slice id off len) => match R id with
   | some (.arr sz' es) => if len = 0 then some ⟨.tuple [],[],[id]⟩ else if sz' = sz∧off + len≤es.length then some ⟨.tuple [],[(id,some (.arr sz (es.take off ++ List.replicate len z ++ es.drop (off + len))))],[id]⟩ else none
   | _ => none
  | _ => none
 | .slice3 sz x lo hi mx => match g x,(match lo with | none => some (AV.int .i64 0) | some o => g o),g hi,g mx with
  | some (.list sz' es),some (.int _ l),some (.int _ h),some (.int _ m) => if sz' = sz∧0≤l∧l≤h∧h≤es.length∧m = h then some (.pure (.clip sz ((es.drop l.toNat).take (h - l).toNat))) else none
  | _,_,_,_ => none
 | .mkSlice sz zero n c => match g n,g c with
  | some (.int .i64 a),some (.int .i64 b) =>
   if a = b∧0≤a∧a≤roomMax then some ⟨.slice s 0 a.toNat,[(s,some (.arr sz (List.replicate a.toNat zero)))],[]⟩ else none
  | _,_ => none
 | .slice sz x lo hi => evSlice g sz R x lo hi
 | .fieldA off x => match g x with
  | some (.ptr id idx o) => some (.pure (.ptr id idx (o + off)))
  | some (.iptr e o) => some (.pure (.iptr e (o + off)))
  | some (.tabP id idx o) => some (.pure (.tabP id idx (o + off)))
  | _ => none
 | .field off n ag x => match g x with
  | some (.agg cs) => match part ag off n cs with
   | some v => some (.pure v)
   | none => none
  | _ => none
 | .indexA sz x i => evIndexA g R sz x i
 | .indexP len sz x i => match g x,g i with
  | some (.ptr id idx off),some (.int _ n) => if 0≤n∧n < len then some (.pure (.ptr id idx (off + n.toNat * sz))) else none
  | some (.iptr e off),some (.int _ n) => if 0≤n∧n < len then some (.pure (.iptr e (off + n.toNat * sz))) else none
  | _,_ => none
 | .index len sz ag x i => match g x,g i with
  | some (.agg cs),some (.int _ n) => if 0≤n∧n < len then match part ag (n.toNat * sz) sz cs with
    | some v => some (.pure v)
    | none => none
   else none
  | _,_ => none
 | .extract x i => match g x with
  | some (.tuple vs) => match vs[i]? with
   | some v => some (.pure v)
   | none => none
  | _ => none
 | .len x => match g x with
  | some (.slice _ _ n) => some (.pure (.int .i64 n))
  | some (.list _ es) => some (.pure (.int .i64 es.length))
  | some (.tabS _ n) => some (.pure (.int .i64 n))
  | some (.inS _ _ n) => some (.pure (.int .i64 n))
  | some v => if v.isNil = true then some (.pure (.int .i64 0)) else none
  | none => none
 | .minmax isMax xs => match mapO (i64Of g) xs with
  | some (n :: ns) => some (.pure (.int .i64 (ns.foldl (maxOf isMax) n)))
  | _ => none
 | .append sz d x => evAppend s g R sz d x
 | .call f args bor => evCall call s g R f args bor
 | .capN x => evCapN g x
 | .copyB sz d x => evCopy g R sz d x
 | .appZ sz zero d n => evAppY s g R sz zero d n
 | .mkTab sz parts => evMkTab s g R sz parts
 | .appTab sz d x => evAppTab s g R sz d x
 | .mkMap k => some ⟨.mapp s,[(s,some (.mp k []))],[]⟩
 | .mapSet kk m k x => evMapSet g R kk m k x
 | .mkMapS ks => some ⟨.mapp s,[(s,some (.mpS ks [] []))],[]⟩
 | .mapSetS ks m k x => evMapSetS g R ks m k x
 | .mapGetS ks z ok m k => evMapGetS g R ks z ok m k
 | .mkMapV k => some ⟨.mapp s,[(s,some (.mpV k []))],[]⟩
 | .mapSetV kk m k x => evMapSetV g R kk m k x
 | .rangeI m => evRangeI s g R m
 | .entry it => evEntry g R it
 | .mapGet kk zero ok m k => evMapGet g R kk zero ok m k
 | .mapLen m => evMapLen g R m
 | .mapDel kk m k => evMapDel g R kk m k
 | .mapEnt ks z m k => evMapEnt s g R ks z m k
 | .entSt m st x => evEntSt g R m st x
 | .strLen x => evStrLen g x
 | .strAt x i => evStrAt g x i
 | .strEq neg x y => evStrEq g neg x y
 | .strId x => evStrId g x
 | .strOf x => evStrOf g R x
 | .prim f xs => match mapO g xs with
  | some vs => match f vs with
   | some v => some (.pure v)
   | none => none
  | none => none
structure Fr where
 tm : List (Nat × AV)
 rows : List (Nat × Row)
 lent : List (Nat × Option Nat)
 next : Nat
 deriving Inhabited
def getO (T : Nat → Option AV) : AOpd → Option AV
 | .tmp t => T t
 | .lit v => some v
def skipped : AV:=.tuple []
def stepOp (call : CallF) (s : Nat) (o : AOper) (T : Nat → Option AV) (R : Nat → Option Row) : Option Eff :=
 match o.guard with
 | none => evalOp call s (getO T) R o.op
 | some (t,b) => match T t with
  | some (.bool c) => if c = b then evalOp call s (getO T) R o.op else some (.pure skipped)
  | some (.tuple []) => some (.pure skipped)
  | _ => none
def updRows : List (Nat × Option Row) → List (Nat × Row) → List (Nat × Row)
 | [],rows => rows
 | (i,some r) :: w,rows => (i,r) :: del i (updRows w rows)
 | (i,none) :: w,rows => del i (updRows w rows)
def putT (dst : Option Nat) (v : AV) (tm : List (Nat × AV)) : List (Nat × AV) :=
 match dst with
 | some d => (d,v) :: tm
 | none => tm
structure Foot where
 k : Nat
 rd : List Nat
 wr : List Nat
def Foot.apart (a b : Foot) : Bool:=disj a.wr (b.rd ++ b.wr) && disj b.wr a.rd
def runOps (call : CallF) (base : Nat) (draw : Bool) : Nat → List AOper → List (List Nat) → List Foot → List (Nat × AV) → List (Nat × Row) → Option (List (Nat × AV) × List (Nat × Row))
 | _,[],_,_,tm,rows => some (tm,rows)
 | k,o :: os,bef,acc,tm,rows =>
  match stepOp call (base + siteWidth * k) o (fun t=>lk t tm) (fun i=>lk i rows) with
  | none => none
  | some e =>
   if draw then
    if acc.all fun a=>(bef.headD []).contains a.k || a.apart ⟨k,e.rd,e.wr.map (·.1)⟩ then
     runOps call base draw (k + 1) os bef.tail (⟨k,e.rd,e.wr.map (·.1)⟩ :: acc) (putT o.dst e.v tm) (updRows e.wr rows)
    else none
   else runOps call base draw (k + 1) os bef acc (putT o.dst e.v tm) (updRows e.wr rows)
def AOp.isEnt : AOp → Bool
 | .mapEnt .. => true
 | _ => false
def effEq (x : Option Eff) (e : Eff) : Bool:=match x with
 | some e' => AV.beq e'.v e.v && e'.wr.isEmpty && e.wr.isEmpty && decide (e'.rd = e.rd)
 | none => false
def getChk (o : AOper) (tm : List (Nat × AV)) (rows : List (Nat × Row)) (e : Eff) (wr : List (Nat × Option Row)) : Bool :=
 match o.guard,o.op with
 | none,.mapGetS ks z ok m k => effEq (evMapGetS (getO fun t=>lk t tm) (fun i=>lk i (updRows wr rows)) ks z ok m k) e
 | _,_ => false
structure FootX where
 f : Foot
 ent : Bool
 chk : List (Nat × Option Row) → Bool
def runOpsX (call : CallF) (base : Nat) : Nat → List AOper → List (List Nat) → List FootX → List (Nat × AV) → List (Nat × Row) → Option (List (Nat × AV) × List (Nat × Row))
 | _,[],_,_,tm,rows => some (tm,rows)
 | k,o :: os,bef,acc,tm,rows =>
  match stepOp call (base + siteWidth * k) o (fun t=>lk t tm) (fun i=>lk i rows) with
  | none => none
  | some e =>
   if acc.all fun a=>(bef.headD []).contains a.f.k || a.f.apart ⟨k,e.rd,e.wr.map (·.1)⟩ || (o.op.isEnt && acc.all (fun b=>!b.ent) && a.f.wr.isEmpty && a.chk e.wr) then
    runOpsX call base (k + 1) os bef.tail (⟨⟨k,e.rd,e.wr.map (·.1)⟩,o.op.isEnt,getChk o tm rows e⟩ :: acc) (putT o.dst e.v tm) (updRows e.wr rows)
   else none
def keepT (keep : List Nat) (tm : List (Nat × AV)) : List (Nat × AV) :=
 match keep with
 | [] => []
 | t :: ts => match lk t tm with
  | some v => (t,v) :: keepT ts tm
  | none => keepT ts tm
def runRegion (call : CallF) (ops : List AOper) (draw : Bool) (bef : List (List Nat)) (keep : List Nat) (fr : Fr) : Option Fr :=
 match runOps call fr.next draw 0 ops bef [] fr.tm fr.rows with
 | none => none
 | some (tm,rows) => some ⟨keepT keep tm,rows,fr.lent,fr.next + siteWidth * ops.length⟩
def runRegionX (call : CallF) (ops : List AOper) (bef : List (List Nat)) (keep : List Nat) (fr : Fr) : Option Fr :=
 match runOpsX call fr.next 0 ops bef [] fr.tm fr.rows with
 | none => none
 | some (tm,rows) => some ⟨keepT keep tm,rows,fr.lent,fr.next + siteWidth * ops.length⟩
def canon (t j : Nat) : Nat:=t * 64 + j
def canon2 (k j : Nat) : Nat:=300000 + k * 16 + j
def nextBase : Nat:=10000000
structure Ren where
 ren : List (Nat × Nat)
 virt : List (Nat × Nat)
def nmCell (k : Nat) (c : AV) (r : Ren) : AV × Ren :=
 match c with
 | .slice id off len => match lk id r.ren with
  | some k' => (.slice k' off len,r)
  | none => (.slice k off len,⟨r.ren ++ [(id,k)],r.virt⟩)
 | .ptr id idx off => match lk id r.ren with
  | some k' => (.ptr k' idx off,r)
  | none => (.ptr k idx off,⟨r.ren ++ [(id,k)],r.virt⟩)
 | .mapp id => match lk id r.ren with
  | some k' => (.mapp k',r)
  | none => (.mapp k,⟨r.ren ++ [(id,k)],r.virt⟩)
 | .yieldT id => match lk id r.ren with
  | some k' => (.yieldT k',r)
  | none => (.yieldT k,⟨r.ren ++ [(id,k)],r.virt⟩)
 | .itT id => match lk id r.ren with
  | some k' => (.itT k',r)
  | none => (.itT k,⟨r.ren ++ [(id,k)],r.virt⟩)
 | .tabS id len => match lk id r.ren with
  | some k' => (.tabS k' len,r)
  | none => (.tabS k len,⟨r.ren ++ [(id,k)],r.virt⟩)
 | .tabP id idx off => match lk id r.ren with
  | some k' => (.tabP k' idx off,r)
  | none => (.tabP k idx off,⟨r.ren ++ [(id,k)],r.virt⟩)
 | .inS id p len => match lk id r.ren with
  | some k' => (.inS k' p len,r)
  | none => (.inS k p len,⟨r.ren ++ [(id,k)],r.virt⟩)
 | .inP id p j => match lk id r.ren with
  | some k' => (.inP k' p j,r)
  | none => (.inP k p j,⟨r.ren ++ [(id,k)],r.virt⟩)
 | .nilS sz => (.slice k 0 0,⟨r.ren,r.virt ++ [(k,sz)]⟩)
 | .func f [] => (.func f [],r)
 | .agg _ | .tuple _ | .func .. | .meth .. | .stampT _ => (.any,r)
 | c => (c,r)
def nmCells (f : Nat → Nat) (j : Nat) : List AV → Ren → List AV × Ren
 | [],r => ([],r)
 | c :: cs,r =>
  let x:=nmCell (f j) c r
  let y:=nmCells f (j + 1) cs x.2
  (x.1 :: y.1,y.2)
def nmVal (t : Nat) (v : AV) (r : Ren) : AV × Ren :=
 match v with
 | .agg cs => let x:=nmCells (canon t) 0 cs r; (.agg x.1,x.2)
 | .func f cs => let x:=nmCells (canon t) 0 cs r; (.func f x.1,x.2)
 | .meth f (.agg cs) => let x:=nmCells (canon t) 0 cs r; (.meth f (.agg x.1),x.2)
 | .meth f b => let x:=nmCell (canon t 0) b r; (.meth f x.1,x.2)
 | v => nmCell (canon t 0) v r
def nmTm : List (Nat × AV) → Ren → List (Nat × AV) × Ren
 | [],r => ([],r)
 | (t,v) :: tm,r =>
  let x:=nmVal t v r
  let y:=nmTm tm x.2
  ((t,x.1) :: y.1,y.2)
def nmNum (k m : Nat) (r : Ren) : Nat × Ren :=
 match lk m r.ren with
 | some k' => (k',r)
 | none => (k,⟨r.ren ++ [(m,k)],r.virt⟩)
def renV1 (r : Ren) : AV → AV
 | .int k n => .int k n
 | .bool b => .bool b
 | .ptr id idx off => match lk id r.ren with
  | some k => .ptr k idx off
  | none => .any
 | _ => .any
def renV (r : Ren) : AV → AV
 | .agg cs => .agg (cs.map (renV1 r))
 | v => renV1 r v
def leK : List AV → List AV → Bool
 | .int _ a :: r,.int _ b :: r' => if a < b then true else if b < a then false else leK r r'
 | .bool a :: r,.bool b :: r' => if a = b then leK r r' else !a
 | [],_ => true
 | _,_ => false
def insK (x : List AV × AV) : List (List AV × AV) → List (List AV × AV)
 | [] => [x]
 | y :: l => if leK x.1 y.1 then x :: y :: l else y :: insK x l
def sortK : List (List AV × AV) → List (List AV × AV)
 | [] => []
 | x :: l => insK x (sortK l)
def rowS (ks : List Bool) (keys : List (List AV)) (vals : List AV) : Row:=.mpS ks ((sortK (keys.zip vals)).map (·.1)) ((sortK (keys.zip vals)).map (·.2))
def nmRows (rows : List (Nat × Row)) : List (Nat × Nat) → Ren → List (Nat × Row) × Ren
 | [],r => ([],r)
 | (id,k) :: l,r => match lk id rows with
  | some (.box cs) =>
   let x:=nmCells (canon2 k) 0 cs r
   let y:=nmRows rows l x.2
   ((k,.box x.1) :: y.1,y.2)
  | some (.num m) =>
   let x:=nmNum (canon2 k 0) m r
   let y:=nmRows rows l x.2
   ((k,.num x.1) :: y.1,y.2)
  | some (.iter left _) =>
   let y:=nmRows rows l r
   ((k,.iter (left.map fun p=>(p.1,renV r p.2)) none) :: y.1,y.2)
  | some (.mpV _ _) => nmRows rows l r
  | some (.mpE ..) => nmRows rows l r
  | some (.mpS ks keys vals) =>
   let y:=nmRows rows l r
   ((k,rowS ks keys vals) :: y.1,y.2)
  | some row => let y:=nmRows rows l r; ((k,row) :: y.1,y.2)
  | none => nmRows rows l r
def nmArrs (rows : List (Nat × Row)) : List (Nat × Nat) → List (Nat × Row)
 | [] => []
 | (id,k) :: l => match lk id rows with
  | some (.arr sz es) => (k,.arr sz es) :: nmArrs rows l
  | some (.mp q kv) => (k,.mp q kv) :: nmArrs rows l
  | some (.mpS ks keys vals) => (k,.mpS ks keys vals) :: nmArrs rows l
  | some (.log q xs) => (k,.log q xs) :: nmArrs rows l
  | some (.tab sz es) => (k,.tab sz es) :: nmArrs rows l
  | _ => nmArrs rows l
def Row.scalars : Row → Bool
 | .box cs => cs.all AV.scalar
 | _ => true
def insRow (k : Nat) (r : Row) : List (Nat × Row) → List (Nat × Row)
 | [] => [(k,r)]
 | (j,s) :: l => if k≤j then (k,r) :: (j,s) :: l else (j,s) :: insRow k r l
def sortRows : List (Nat × Row) → List (Nat × Row)
 | [] => []
 | (k,r) :: l => insRow k r (sortRows l)
def norm (keep : List Nat) (fr : Fr) : Option Fr :=
 let x:=nmTm (keepT keep fr.tm) ⟨fr.lent.map fun p=>(p.1,p.1),[]⟩
 let y:=nmRows fr.rows x.2.ren x.2
 let more:=nmArrs fr.rows (y.2.ren.drop x.2.ren.length)
 let ids:=y.2.ren.map (·.2) ++ y.2.virt.map (·.1)
 if nodup ids && ids.all (· < nextBase) && y.1.all (fun p=>p.2.scalars) then some ⟨x.1,sortRows (y.1 ++ more ++ y.2.virt.map (fun p=>(p.1,.arr p.2 []))),fr.lent,nextBase⟩ else none
inductive AEx where
 | normal
 | exit (id : Nat)
 | ret
 deriving Inhabited,DecidableEq
def loopN (step : Fr → Option (AEx × Fr)) (nm : Fr → Option Fr) : Nat → Fr → Option (AEx × Fr)
 | 0,_ => none
 | n + 1,fr => match step fr with
  | some (.normal,fr') => match nm fr' with
   | some fr'' => loopN step nm n fr''
   | none => none
  | r => r
def setPs : List Nat → List AV → List (Nat × AV) → Option (List (Nat × AV))
 | [],[],tm => some tm
 | p :: ps,x :: xs,tm => setPs ps xs ((p,x) :: tm)
 | _,_,_ => none
def rounds (step : Fr → Option (AEx × Fr)) (nm : Fr → Option Fr) (keep ps : List Nat) : Nat → List (List AV) → Fr → Option (Nat × AEx × Fr)
 | i,[],fr => some (i,.normal,fr)
 | i,x :: xs,fr => match setPs ps x fr.tm with
  | none => none
  | some tm => match step ⟨tm,fr.rows,fr.lent,fr.next⟩ with
   | some (.normal,fr') => match nm fr' with
    | some fr'' => rounds step nm keep ps (i + 1) xs fr''
    | none => none
   | some (ex,fr') => some (i,ex,⟨keepT keep fr'.tm,fr'.rows,fr'.lent,fr'.next⟩)
   | none => none
def bothE (a : Option (AEx × Fr)) (b : Fr → Option (AEx × Fr)) : Option (AEx × Fr) :=
 match a with
 | some (.normal,fr') => b fr'
 | _ => none
def endRange (call : CallF) (g : Nat) (pre vs : List AV) (xs : List (List AV)) : Option (Nat × AEx × Fr) → Option (AEx × Fr)
 | none => none
 | some (_,.normal,fr) => match call g (pre ++ .ylog (some 0) xs :: vs) with
  | some (_,[.ylog (some 0) []]) => some (.normal,fr)
  | _ => none
 | some (i,ex,fr) => match call g (pre ++ .ylog (some 1) (xs.take (i + 1)) :: vs) with
  | some (_,[.ylog (some 1) []]) => some (ex,fr)
  | _ => none
def evRangeF (call : CallF) (nm : Fr → Option Fr) (keep ps : List Nat) (step : Fr → Option (AEx × Fr)) (fr : Fr) (g : Nat) (pre vs : List AV) (ids : List Nat) : Option (AEx × Fr) :=
 match call g (pre ++ .ylog none [] :: vs) with
 | some (_,[.ylog _ xs]) => match nm ⟨fr.tm,updRows (gone ids) fr.rows,fr.lent,fr.next⟩ with
  | some fr1 => endRange call g pre vs xs (rounds step nm keep ps 0 xs fr1)
  | none => none
 | _ => none
def evRange (call : CallF) (nm : Fr → Option Fr) (keep ps : List Nat) (step : Fr → Option (AEx × Fr)) (fr : Fr) (f : Option AV) : Option (AEx × Fr) :=
 match f with
 | some (.func g cap) => match frzL (frz (fun i=>lk i fr.rows) frzDepth) cap with
  | some (vs,ids) => evRangeF call nm keep ps step fr g [] vs ids
  | none => none
 | some (.meth g b) => match frz (fun i=>lk i fr.rows) frzDepth b with
  | some (b',ids) => evRangeF call nm keep ps step fr g [b'] [] ids
  | none => none
 | _ => none
noncomputable def pickAll {α : Type} (rs : List (Option α)) : Option α :=
 open Classical in if h : rs ≠ []∧∃ r,∀ o ∈ rs,o = some r then some h.2.choose else none
theorem pickAll_spec {α : Type} {rs : List (Option α)} {r : α} : pickAll rs = some r ↔ rs ≠ []∧∀ o ∈ rs,o = some r:=by
 unfold pickAll;constructor
 ·intro h
  split at h
  ·rename_i hc
   simp only [Option.some.injEq] at h;subst h;exact ⟨hc.1,hc.2.choose_spec⟩
  ·cases h
 ·rintro ⟨h1,h2⟩
  have hc : rs ≠ []∧∃ r,∀ o ∈ rs,o = some r:=⟨h1,r,h2⟩;rw [dif_pos hc];obtain ⟨o,ho⟩:=List.exists_mem_of_ne_nil rs h1;have e1:=hc.2.choose_spec o ho;rw [h2 o ho] at e1;exact e1.symm
noncomputable def pickAllB {α : Type} (q : α → α → Bool) (rs : List (Option α)) : Option α :=
 match rs with
 | some r :: t => if (t.all fun o=>match o with | some x => q x r | none => false) = true then some r else pickAll rs
 | _ => pickAll rs
theorem pickAllB_eq {α : Type} {q : α → α → Bool} (hq : ∀ a b,q a b = true → a = b) (rs : List (Option α)) : pickAllB q rs = pickAll rs:=by
 unfold pickAllB;split
 ·rename_i r t
  split
  ·rename_i h
   refine (pickAll_spec.2 ⟨by simp,fun o ho => ?_⟩).symm
   rcases List.mem_cons.1 ho with rfl | ho
   ·rfl
   ·have:=List.all_eq_true.1 h o ho
    cases o with
    | none => simp at this
    | some x => rw [hq x r (by simpa using this)]
  ·rfl
 ·rfl
def beqTm : List (Nat × AV) → List (Nat × AV) → Bool
 | [],[] => true
 | x :: l,y :: l' => decide (x.1 = y.1) && AV.beq x.2 y.2 && beqTm l l'
 | _,_ => false
def beqPs : List (AV × AV) → List (AV × AV) → Bool
 | [],[] => true
 | x :: l,y :: l' => AV.beq x.1 y.1 && AV.beq x.2 y.2 && beqPs l l'
 | _,_ => false
def Row.beq : Row → Row → Bool
 | .arr sz es,.arr sz' es' => decide (sz = sz') && AV.beqL es es'
 | .box cs,.box cs' => AV.beqL cs cs'
 | .mpS ks keys vals,.mpS ks' keys' vals' => decide (ks = ks') && AV.beqLL keys keys' && AV.beqL vals vals'
 | .iter l none,.iter l' none => beqPs l l'
 | _,_ => false
def beqRows : List (Nat × Row) → List (Nat × Row) → Bool
 | [],[] => true
 | x :: l,y :: l' => decide (x.1 = y.1) && Row.beq x.2 y.2 && beqRows l l'
 | _,_ => false
def exBeq (x y : AEx × Fr) : Bool:=decide (x.1 = y.1) && beqTm x.2.tm y.2.tm && beqRows x.2.rows y.2.rows && decide (x.2.lent = y.2.lent) && decide (x.2.next = y.2.next)
theorem nilEq_eq {a b : Value} (h : nilEq a b = true) : a = b:=by
 unfold nilEq at h;split at h
 ·rfl
 ·rfl
 ·cases h
mutual
theorem AV.beq_eq : ∀ (a b : AV),AV.beq a b = true → a = b
 | .int k n,b,h => by cases b <;> simp [AV.beq] at h; obtain ⟨rfl,rfl⟩:=h; rfl
 | .bool x,b,h => by cases b <;> simp [AV.beq] at h; subst h; rfl
 | .clip _ _,b,h => by simp [AV.beq] at h
 | .list sz es,b,h => by
  cases b <;> simp [AV.beq] at h
  obtain ⟨rfl,h⟩:=h;rw [AV.beqL_eq _ _ h]
 | .iptr e o,b,h => by
  cases b <;> simp [AV.beq] at h
  obtain ⟨rfl,h⟩:=h;rw [AV.beq_eq _ _ h]
 | .agg cs,b,h => by
  cases b <;> simp [AV.beq] at h
  rw [AV.beqL_eq _ _ h]
 | .meth f x,b,h => by
  cases b <;> simp [AV.beq] at h
  obtain ⟨rfl,h⟩:=h;rw [AV.beq_eq _ _ h]
 | .func f cs,b,h => by
  cases b <;> simp [AV.beq] at h
  obtain ⟨rfl,h⟩:=h;rw [AV.beqL_eq _ _ h]
 | .any,b,h => by cases b <;> simp [AV.beq] at h; rfl
 | .nilS _,b,h => by cases b <;> simp [AV.beq] at h; subst h; rfl
 | .borM ks keys vals,b,h => by
  cases b <;> simp [AV.beq] at h
  obtain ⟨⟨rfl,h1⟩,h2⟩:=h;rw [AV.beqLL_eq _ _ h1,AV.beqL_eq _ _ h2]
 | .stampT _,b,h => by simp [AV.beq] at h
 | .const a,b,h => by
  cases b <;> simp [AV.beq] at h
  rw [nilEq_eq h]
 | .ptr ..,b,h => by cases b <;> simp [AV.beq] at h; obtain ⟨⟨rfl,rfl⟩,rfl⟩:=h; rfl
 | .slice ..,b,h => by cases b <;> simp [AV.beq] at h; obtain ⟨⟨rfl,rfl⟩,rfl⟩:=h; rfl
 | .mapp _,b,h => by cases b <;> simp [AV.beq] at h; subst h; rfl
 | .tuple cs,b,h => by
  cases b <;> simp [AV.beq] at h
  rw [AV.beqL_eq _ _ h]
 | .own sz es,b,h => by
  cases b <;> simp [AV.beq] at h
  obtain ⟨rfl,h⟩:=h;rw [AV.beqL_eq _ _ h]
 | .bor cs,b,h => by
  cases b <;> simp [AV.beq] at h
  rw [AV.beqL_eq _ _ h]
 | .borS ..,b,h => by simp [AV.beq] at h
 | .yieldT _,b,h => by simp [AV.beq] at h
 | .ownM ks keys vals,b,h => by
  cases b <;> simp [AV.beq] at h
  obtain ⟨⟨rfl,h1⟩,h2⟩:=h;rw [AV.beqLL_eq _ _ h1,AV.beqL_eq _ _ h2]
 | .itT _,b,h => by cases b <;> simp [AV.beq] at h; subst h; rfl
 | .mapI k keys vals,b,h => by
  cases b <;> simp [AV.beq] at h
  obtain ⟨⟨rfl,rfl⟩,h2⟩:=h;rw [AV.beqL_eq _ _ h2]
 | .tabS ..,b,h => by simp [AV.beq] at h
 | .tabP ..,b,h => by simp [AV.beq] at h
 | .inS ..,b,h => by simp [AV.beq] at h
 | .inP ..,b,h => by simp [AV.beq] at h
 | .ownT ..,b,h => by simp [AV.beq] at h
 | .ylog k xs,b,h => by
  cases b <;> simp [AV.beq] at h
  obtain ⟨rfl,h⟩:=h;rw [AV.beqLL_eq _ _ h]
theorem AV.beqL_eq : ∀ (a b : List AV),AV.beqL a b = true → a = b
 | [],b,h => by cases b <;> simp [AV.beqL] at h; rfl
 | x :: l,b,h => by
  cases b with
  | nil => simp [AV.beqL] at h
  | cons y l' =>
   simp [AV.beqL] at h;rw [AV.beq_eq _ _ h.1,AV.beqL_eq _ _ h.2]
theorem AV.beqLL_eq : ∀ (a b : List (List AV)),AV.beqLL a b = true → a = b
 | [],b,h => by cases b <;> simp [AV.beqLL] at h; rfl
 | x :: l,b,h => by
  cases b with
  | nil => simp [AV.beqLL] at h
  | cons y l' =>
   simp [AV.beqLL] at h;rw [AV.beqL_eq _ _ h.1,AV.beqLL_eq _ _ h.2]
end
theorem beqTm_eq : ∀ (a b : List (Nat × AV)),beqTm a b = true → a = b
 | [],b,h => by cases b <;> simp [beqTm] at h; rfl
 | (i,x) :: l,b,h => by
  cases b with
  | nil => simp [beqTm] at h
  | cons y l' =>
   obtain ⟨j,y⟩:=y;simp only [beqTm,Bool.and_eq_true,decide_eq_true_eq] at h;rw [h.1.1,AV.beq_eq _ _ h.1.2,beqTm_eq _ _ h.2]
theorem beqPs_eq : ∀ (a b : List (AV × AV)),beqPs a b = true → a = b
 | [],b,h => by cases b <;> simp [beqPs] at h; rfl
 | (i,x) :: l,b,h => by
  cases b with
  | nil => simp [beqPs] at h
  | cons y l' =>
   obtain ⟨j,y⟩:=y;simp only [beqPs,Bool.and_eq_true] at h;rw [AV.beq_eq _ _ h.1.1,AV.beq_eq _ _ h.1.2,beqPs_eq _ _ h.2]
theorem Row.beq_eq (a b : Row) (h : Row.beq a b = true) : a = b:=by
 unfold Row.beq at h;split at h
 ·simp only [Bool.and_eq_true,decide_eq_true_eq] at h
  rw [h.1,AV.beqL_eq _ _ h.2]
 ·rw [AV.beqL_eq _ _ h]
 ·simp only [Bool.and_eq_true,decide_eq_true_eq] at h
  rw [h.1.1,AV.beqLL_eq _ _ h.1.2,AV.beqL_eq _ _ h.2]
 ·rw [beqPs_eq _ _ h]
 ·cases h
theorem beqRows_eq : ∀ (a b : List (Nat × Row)),beqRows a b = true → a = b
 | [],b,h => by cases b <;> simp [beqRows] at h; rfl
 | (i,x) :: l,b,h => by
  cases b with
  | nil => simp [beqRows] at h
  | cons y l' =>
   obtain ⟨j,y⟩:=y;simp only [beqRows,Bool.and_eq_true,decide_eq_true_eq] at h;rw [h.1.1,Row.beq_eq _ _ h.1.2,beqRows_eq _ _ h.2]
theorem exBeq_eq (a b : AEx × Fr) (h : exBeq a b = true) : a = b:=by
 obtain ⟨ea,ta,ra,la,na⟩:=a;obtain ⟨eb,tb,rb,lb,nb⟩:=b;simp only [exBeq,Bool.and_eq_true,decide_eq_true_eq] at h;obtain ⟨⟨⟨⟨rfl,h1⟩,h2⟩,rfl⟩,rfl⟩:=h;rw [beqTm_eq _ _ h1,beqRows_eq _ _ h2]
theorem pickX_spec {rs : List (Option (AEx × Fr))} {r : AEx × Fr} : pickAllB exBeq rs = some r ↔ rs ≠ []∧∀ o ∈ rs,o = some r:=by
 rw [pickAllB_eq exBeq_eq,pickAll_spec]
def iterOf (it : Nat) (fr : Fr) : Option (Nat × List (AV × AV)) :=
 match lk it fr.tm with
 | some (.itT id) => match lk id fr.rows with
  | some (.iter left _) => some (id,left)
  | _ => none
 | _ => none
def takeIt (nx more id : Nat) (left : List (AV × AV)) (cur : Option (AV × AV)) (fr : Fr) : Fr :=
 ⟨(more,.bool cur.isSome) :: (nx,.any) :: del more (del nx fr.tm),(id,.iter left cur) :: del id fr.rows,fr.lent,fr.next + siteWidth⟩
def wayIt (left : List (AV × AV)) : List (List (AV × AV) × Option (AV × AV)) :=
 match left with
 | [] => [([],none)]
 | _ => left.zipIdx.map fun p=>(left.eraseIdx p.2,some p.1)
def roundIt (step : Fr → Option (AEx × Fr)) (nm : Fr → Option Fr) (rest : Fr → Option (AEx × Fr)) (fr : Fr) : Option (AEx × Fr) :=
 match step fr with
 | some (.normal,fr') => match nm fr' with
  | some fr'' => rest fr''
  | none => none
 | r => r
noncomputable def rangeMN (step : Fr → Option (AEx × Fr)) (nm : Fr → Option Fr) (it nx more : Nat) : Nat → Fr → Option (AEx × Fr)
 | 0,_ => none
 | n + 1,fr => match iterOf it fr with
  | some (id,left) => pickAllB exBeq ((wayIt left).map fun c=>roundIt step nm (rangeMN step nm it nx more n) (takeIt nx more id c.1 c.2 fr))
  | none => none
def leftOf (it : Nat) (fr : Fr) : List (AV × AV):=match iterOf it fr with
 | some (_,l) => l
 | none => []
def headBeq (it : Nat) (x y : Fr) : Bool:=beqPs (leftOf it x) (leftOf it y) && exBeq (.normal,x) (.normal,y)
theorem headBeq_eq {it : Nat} {x y : Fr} (h : headBeq it x y = true) : x = y:=by
 simp only [headBeq,Bool.and_eq_true] at h;have:=exBeq_eq _ _ h.2;simpa using this
def addHead (it : Nat) (x : Fr) (l : List Fr) : List Fr:=if l.any (fun y=>headBeq it x y) then l else x :: l
def headWays (step : Fr → Option (AEx × Fr)) (nm : Fr → Option Fr) (it nx more id : Nat) (fr : Fr) : List (List (AV × AV) × Option (AV × AV)) → List Fr → Option (List Fr)
 | [],acc => some acc
 | c :: cs,acc => match step (takeIt nx more id c.1 c.2 fr) with
  | some (.normal,fr') => match nm fr' with
   | some fr'' => headWays step nm it nx more id fr cs (addHead it fr'' acc)
   | none => none
  | _ => none
def headLevel (step : Fr → Option (AEx × Fr)) (nm : Fr → Option Fr) (it nx more : Nat) : List Fr → List Fr → Option (List Fr)
 | [],acc => some acc
 | fr :: l,acc => match iterOf it fr with
  | some (id,left) => match left with
   | [] => none
   | _ => match headWays step nm it nx more id fr (wayIt left) acc with
    | some acc' => headLevel step nm it nx more l acc'
    | none => none
  | none => none
def lastRound (step : Fr → Option (AEx × Fr)) (it nx more : Nat) (fr : Fr) : Option (AEx × Fr):=match iterOf it fr with
 | some (id,[]) => match step (takeIt nx more id [] none fr) with
  | some (.normal,_) => none
  | r => r
 | _ => none
def headsN (step : Fr → Option (AEx × Fr)) (nm : Fr → Option Fr) (it nx more : Nat) : Nat → List Fr → Option (AEx × Fr)
 | 0,_ => none
 | n + 1,heads => match heads with
  | [fr] => match leftOf it fr with
   | [] => lastRound step it nx more fr
   | _ => match headLevel step nm it nx more [fr] [] with
    | some heads' => headsN step nm it nx more n heads'
    | none => none
  | _ => match headLevel step nm it nx more heads [] with
   | some heads' => headsN step nm it nx more n heads'
   | none => none
section
variable {step : Fr → Option (AEx × Fr)} {nm : Fr → Option Fr} {it nx more : Nat}
theorem addHead_mem {x : Fr} {l : List Fr} : x ∈ addHead it x l∧∀ y ∈ l,y ∈ addHead it x l:=by
 unfold addHead;split
 ·rename_i h
  obtain ⟨y,hy,hb⟩:=List.any_eq_true.1 h;rw [headBeq_eq hb];exact ⟨hy,fun _ h => h⟩
 ·exact ⟨by simp,fun y hy => List.mem_cons_of_mem _ hy⟩
theorem headWays_mem {id : Nat} {fr : Fr} : ∀ {cs : List (List (AV × AV) × Option (AV × AV))} {acc r : List Fr},headWays step nm it nx more id fr cs acc = some r →
  (∀ y ∈ acc,y ∈ r)∧∀ c ∈ cs,∃ fr' fr'',step (takeIt nx more id c.1 c.2 fr) = some (.normal,fr')∧nm fr' = some fr''∧fr'' ∈ r
 | [],acc,r,h => by simp only [headWays,Option.some.injEq] at h; subst h; exact ⟨fun _ h => h,by simp⟩
 | c :: cs,acc,r,h => by
  simp only [headWays] at h;split at h
  ·rename_i fr' hs
   split at h
   ·rename_i fr'' hn
    obtain ⟨h1,h2⟩:=headWays_mem h;refine ⟨fun y hy => h1 y (addHead_mem.2 y hy),fun c' hc => ?_⟩
    rcases List.mem_cons.1 hc with rfl | hc
    ·exact ⟨fr',fr'',hs,hn,h1 _ addHead_mem.1⟩
    ·exact h2 c' hc
   ·cases h
  ·cases h
theorem headLevel_mem : ∀ {l acc r : List Fr},headLevel step nm it nx more l acc = some r →
  (∀ y ∈ acc,y ∈ r)∧∀ fr ∈ l,∃ id left,iterOf it fr = some (id,left)∧∀ c ∈ wayIt left,∃ fr' fr'',step (takeIt nx more id c.1 c.2 fr) = some (.normal,fr')∧nm fr' = some fr''∧fr'' ∈ r
 | [],acc,r,h => by simp only [headLevel,Option.some.injEq] at h; subst h; exact ⟨fun _ h => h,by simp⟩
 | fr :: l,acc,r,h => by
  simp only [headLevel] at h;split at h
  ·rename_i id left hi
   split at h
   ·cases h
   ·split at h
    ·rename_i acc' hw
     obtain ⟨g1,g2⟩:=headWays_mem hw;obtain ⟨h1,h2⟩:=headLevel_mem h;refine ⟨fun y hy => h1 y (g1 y hy),fun fr0 hf => ?_⟩
     rcases List.mem_cons.1 hf with rfl | hf
     ·refine ⟨id,left,hi,fun c hc => ?_⟩
      obtain ⟨fr',fr'',q1,q2,q3⟩:=g2 c hc;exact ⟨fr',fr'',q1,q2,h1 _ q3⟩
     ·exact h2 fr0 hf
    ·cases h
  ·cases h
theorem wayIt_ne (l : List (AV × AV)) : wayIt l ≠ []:=by
 cases l <;> simp [wayIt]
theorem headsN_sound : ∀ {n : Nat} {heads : List Fr} {r : AEx × Fr},headsN step nm it nx more n heads = some r → ∀ fr ∈ heads,rangeMN step nm it nx more n fr = some r
 | 0,_,_,h => by simp [headsN] at h
 | n + 1,heads,r,h => by
  have level : ∀ heads : List Fr,(match headLevel step nm it nx more heads [] with | some heads' => headsN step nm it nx more n heads' | none => none) = some r → ∀ fr ∈ heads,rangeMN step nm it nx more (n + 1) fr = some r:=by
   intro heads h fr hf;split at h
   ·rename_i heads' hl
    obtain ⟨_,h2⟩:=headLevel_mem hl;obtain ⟨id,left,hi,hc⟩:=h2 fr hf;simp only [rangeMN,hi];rw [pickX_spec];refine ⟨by simpa using wayIt_ne left,fun o ho => ?_⟩
    obtain ⟨c,hc',rfl⟩:=List.mem_map.1 ho;obtain ⟨fr',fr'',q1,q2,q3⟩:=hc c hc';unfold roundIt;rw [q1];simp only [q2];exact headsN_sound h fr'' q3
   ·cases h
  simp only [headsN] at h;split at h
  ·rename_i fr
   intro fr0 hf;rw [List.mem_singleton.1 hf];split at h
   ·rename_i hl
    unfold lastRound at h;split at h
    ·rename_i id hi
     simp only [rangeMN,hi];rw [pickX_spec];refine ⟨by simp [wayIt],fun o ho => ?_⟩
     simp only [wayIt,List.map_cons,List.map_nil,List.mem_singleton] at ho;subst ho;unfold roundIt;split at h
     ·cases h
     ·rename_i hne
      cases hs : step (takeIt nx more id [] none fr) with
      | none => rw [hs] at h; cases h
      | some q =>
       obtain ⟨e,f⟩:=q;rw [hs] at h;cases e with
       | normal => exact absurd hs (hne f)
       | exit i => exact h
       | ret => exact h
    ·cases h
   ·exact level [fr] h fr (by simp)
  ·exact level heads h
noncomputable def rangeX (step : Fr → Option (AEx × Fr)) (nm : Fr → Option Fr) (it nx more : Nat) (n : Nat) (fr : Fr) : Option (AEx × Fr) :=
 match headsN step nm it nx more n [fr] with
 | some r => some r
 | none => rangeMN step nm it nx more n fr
theorem rangeX_eq (n : Nat) (fr : Fr) : rangeX step nm it nx more n fr = rangeMN step nm it nx more n fr:=by
 unfold rangeX;split
 ·rename_i r h
  exact (headsN_sound h fr (by simp)).symm
 ·rfl
end
noncomputable def evalCode (call : CallF) (n : Nat) : ACode → Fr → Option (AEx × Fr)
 | .skip,fr => some (.normal,fr)
 | .region ops draw bef keep,fr => match runRegion call ops draw bef keep fr with
  | some fr' => some (.normal,fr')
  | none => none
 | .regionX ops bef keep,fr => match runRegionX call ops bef keep fr with
  | some fr' => some (.normal,fr')
  | none => none
 | .seq a b,fr => match evalCode call n a fr with
  | some (.normal,fr') => evalCode call n b fr'
  | r => r
 | .cond c x y,fr => match getO (fun t=>lk t fr.tm) c with
  | some (.bool true) => evalCode call n x fr
  | some (.bool false) => evalCode call n y fr
  | _ => none
 | .block id c,fr => match evalCode call n c fr with
  | some (.exit id',fr') => if id' = id then some (.normal,fr') else some (.exit id',fr')
  | r => r
 | .loop keep c,fr => match norm keep fr with
  | some fr' => loopN (evalCode call n c) (norm keep) n fr'
  | none => none
 | .exit id,fr => some (.exit id,fr)
 | .ret,fr => some (.ret,fr)
 | .rangeF f ps a b keep,fr => evRange call (norm keep) keep ps (fun fr=>bothE (evalCode call n a fr) (evalCode call n b)) fr (getO (fun t=>lk t fr.tm) f)
 | .norm keep,fr => match norm keep fr with
  | some fr' => some (.normal,fr')
  | none => none
 | .rangeM keep it nx more body,fr => match norm keep fr with
  | some fr' => rangeX (evalCode call n body) (norm keep) it nx more n fr'
  | none => none
def imArgs (n : Nat) : List AV → List AV × List (Nat × Row) × List (Nat × Option Nat) × Nat
 | [] => ([],[],[],n)
 | a :: r =>
  let x:=imArg n a
  let y:=imArgs x.2.2 r
  (x.1 :: y.1,x.2.1 ++ y.2.1,(match a with | .bor _ => (n,none) :: y.2.2.1 | .borS _ es => (n,some es.length) :: y.2.2.1 | .ylog .. => (n,none) :: y.2.2.1 | .borM .. => (n,none) :: y.2.2.1 | _ => y.2.2.1),y.2.2.2)
def enumFrom (i : Nat) : List AV → List (Nat × AV)
 | [] => []
 | v :: r => (i,v) :: enumFrom (i + 1) r
def resOf (tm : List (Nat × AV)) (rows : List (Nat × Row)) : ARes → Option AV
 | .tmp t => lk t tm
 | .cell t n ag => match lk t tm with
  | some (.ptr id 0 0) => match lk id rows with
   | some (.box cs) => part ag 0 n cs
   | _ => none
  | _ => none
def tupled : List AV → AV
 | [v] => v
 | vs => .tuple vs
def exOut (rows : List (Nat × Row)) (p : Nat × Option Nat) : Option Ex :=
 match p.2,lk p.1 rows with
 | none,some (.box cs) => match exL (exCell fun i=>lk i rows) cs with
  | some (cs',m,z) => some ⟨.bor cs',p.1 :: m,z⟩
  | none => none
 | none,some (.num m) => match lk m rows with
  | some (.log k xs) => some ⟨.ylog k xs,[p.1,m],[]⟩
  | _ => none
 | none,some (.mpS ks keys vals) => match (Row.mpS ks keys vals).asM with
  | some (ks,keys,vals) => some ⟨.borM ks keys vals,[p.1],[]⟩
  | none => none
 | none,some (.mp k kv) => match (Row.mp k kv).asM with
  | some (ks,keys,vals) => some ⟨.borM ks keys vals,[p.1],[]⟩
  | none => none
 | some n,some (.arr sz es) => if es.length = n then some ⟨.borS sz es,[p.1],[]⟩ else none
 | _,_ => none
def exOuts (f : Nat × Option Nat → Option Ex) : List (Nat × Option Nat) → Option (List AV × List Nat × List Nat)
 | [] => some ([],[],[])
 | i :: r => match f i with
  | none => none
  | some x => match exOuts f r with
   | none => none
   | some (vs,m,z) => some (x.v :: vs,x.mv ++ m,x.fz ++ z)
def finish (fn : AFn) (fr : Fr) : Option (AV × List AV) :=
 match mapO (resOf fr.tm fr.rows) fn.results with
 | none => none
 | some vs => match exRes (fun i=>lk i fr.rows) (tupled vs) with
  | none => none
  | some x => match exOuts (exOut fr.rows) fr.lent with
   | none => none
   | some (os,m,z) => if nodup (x.mv ++ m) && disj (x.mv ++ m) (x.fz ++ z) then some (x.v,os) else none
def entryBase : Nat:=200000
def enter (args : List AV) : Fr :=
 let x:=imArgs entryBase args
 ⟨enumFrom 0 x.1,x.2.1,x.2.2.1,nextBase⟩
noncomputable def evalFn (call : CallF) (n : Nat) (fn : AFn) (args : List AV) : Option (AV × List AV) :=
 if args.length = fn.nargs∧(imArgs entryBase args).2.2.2≤nextBase then
  match evalCode call n fn.body (enter args) with
  | some (.normal,fr') => finish fn fr'
  | some (.ret,fr') => finish fn fr'
  | _ => none
 else none
def primA2 (f : List AV → Option AV) : AFn:=⟨2,[.tmp 2],.region [⟨some 2,.prim f [.tmp 0,.tmp 1],none⟩] false [[]] [2]⟩
noncomputable def evalCall (F : Nat → Option AFn) : Nat → CallF
 | 0,_,_ => none
 | n + 1,f,args => match F f with
  | some fn => evalFn (evalCall F n) n fn args
  | none => none
end Go.Abs
