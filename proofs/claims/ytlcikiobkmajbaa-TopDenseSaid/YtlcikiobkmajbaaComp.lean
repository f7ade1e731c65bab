/-
 From the model's code to the abstract interpreter's: types are looked up once. Definitions alone.
-/
import Derived.Test.YtlcikiobkmajbaaGlob
set_option linter.all false
namespace Go.Abs
structure Hints where
 regs : List (Nat × List Nat)
 loops : List (Nat × List Nat)
 befs : List (Nat × List (List Nat))
 meets : List (Nat × List Nat)
 deriving Inhabited
def meetC : Option (List Nat) → ACode → ACode
 | none,c => c
 | some keep,c => .seq (.norm keep) c
def isAggD : TypeDesc → Bool
 | .struct _ | .array _ _ => true
 | _ => false
section
variable (P : Program)
def szOf (t : TypeId) : Option Nat:=(P.info? t).map (·.size)
def agOf (t : TypeId) : Option Bool:=(P.underlying t).map isAggD
def shapeOf : Nat → TypeId → Option (List (Option Nat))
 | 0,_ => none
 | d + 1,t => match P.underlying t with
  | some (.slice e) => (szOf P e).map fun n=>[some n]
  | some (.struct fields) => (mapO (fun f : Field => shapeOf d f.type) fields.toList).map List.flatten
  | some (.array n e) => (shapeOf d e).map fun l=>(List.replicate n l).flatten
  | some _ => some [none]
  | none => none
def ofCell (sh : Option Nat) (v : Value) : AV :=
 match sh,v with
 | some sz,.slice none 0 0 => .nilS sz
 | _,.int k n => .int k n
 | _,.bool b => .bool b
 | _,v => .const v
def ofCells : List (Option Nat) → List Value → Option (List AV)
 | [],[] => some []
 | s :: ss,v :: vs => match ofCells ss vs with
  | some r => some (ofCell s v :: r)
  | none => none
 | _,_ => none
def ofVal (t : TypeId) (v : Value) : Option AV :=
 match shapeOf P 8 t with
 | some sh => match v with
  | .agg cs => (ofCells sh cs.toList).map .agg
  | v => match sh with
   | [s] => some (ofCell s v)
   | _ => none
 | none => none
def zeroOf (t : TypeId) : Option AV:=match P.info? t with
 | some i => match i.zero with
  | some z => if z.cells.size = i.size then ofVal P t z else none
  | none => none
 | none => none
def ofValK (k : Bool) (t : TypeId) (v : Value) : Option AV :=
 if k = true then match v with
  | .agg cs => (ofCells (cs.toList.map fun _=>none) cs.toList).map .agg
  | _ => none
 else ofVal P t v
def zeroK (k : Bool) (t : TypeId) : Option AV:=match P.info? t with
 | some i => match i.zero with
  | some z => if z.cells.size = i.size then ofValK P k t z else none
  | none => none
 | none => none
def opd (t : Option TypeId) : Operand → Option AOpd
 | .tmp t => some (.tmp t)
 | .const (.int k n) => some (.lit (.int k n))
 | .const (.bool b) => some (.lit (.bool b))
 | .const v => match t with
  | some t => (ofVal P t v).map .lit
  | none => match v with
   | .slice none 0 0 => some (.lit (.const (.slice none 0 0)))
   | _ => none
 | .func f => some (.lit (.func f []))
 | .global g => (lk g globT).map fun cs=>.lit (.iptr (.agg cs) 0)
def eqKindsL (f : TypeId → Option (List Bool)) : Nat → List Field → Option (List Bool)
 | _,[] => some []
 | n, fl :: r => if fl.name = "_" ∨ fl.offset ≠ n then none else match f fl.type with
  | some ks => if szOf P fl.type = some ks.length then match eqKindsL f (n + ks.length) r with
    | some rs => some (ks ++ rs)
    | none => none
   else none
  | none => none
def eqKinds : Nat → TypeId → Option (List Bool)
 | 0,_ => none
 | d + 1,t => match P.underlying t with
  | some (.int _) => some [true]
  | some .bool => some [false]
  | some (.struct fields) => if P.stoodInHeld t then none else eqKindsL P (eqKinds d) 0 fields.toList
  | some (.array n e) => match eqKinds d e with
   | some ks => if szOf P e = some ks.length then some ((List.replicate n ks).flatten) else none
   | none => none
  | _ => none
def isNilC : Operand → Bool
 | .const (.slice none 0 0) => true
 | _ => false
def opdsOf (nl : Bool) : List Operand → List TypeId → Option (List AOpd)
 | [],[] => some []
 | x :: xs,t :: ts => match opd P (if (nl && isNilC x) = true then none else some t) x,opdsOf nl xs ts with
  | some a,some r => some (a :: r)
  | _,_ => none
 | _,_ => none
def optOpd : Option Operand → Option (Option AOpd)
 | none => some none
 | some x => match opd P none x with
  | some a => some (some a)
  | none => none
def flatKey (t : TypeId) : Bool:=match P.underlying t with
 | some (.int _) => true
 | some .bool => true
 | _ => false
def keysOf (kt : TypeId) : Option (List Bool):=match P.underlying kt with
 | some (.struct fs) => if fs.toList.all (fun f=>flatKey P f.type) then eqKinds P 2 kt else none
 | some (.array _ e) => if flatKey P e then eqKinds P 2 kt else none
 | _ => none
def flatVal (t : TypeId) : Bool:=flatKey P t || match P.underlying t with
 | some (.struct fs) => fs.toList.all (fun f=>flatKey P f.type)
 | some (.func ..) => true
 | _ => false
def compSetS (ks : List Bool) (kt et : TypeId) (m k x : Operand) : Option AOp:=match agOf P et,opd P none m,opd P (some kt) k,opd P (some et) x with
 | some false,some m,some k,some x => some (.mapSetS ks m k x)
 | _,_,_,_ => none
def compEnt (ks : List Bool) (kt et : TypeId) (m k : Operand) : Option AOp:=match agOf P et,zeroOf P et,opd P none m,opd P (some kt) k with
 | some false,some z,some m,some k => some (.mapEnt ks z m k)
 | _,_,_,_ => none
def compSt (t : TypeId) (m st x : Operand) : Option AOp:=match P.underlying t with
 | some (.map _ et) => match opd P none m,opd P none st,opd P (some et) x with
  | some m,some st,some x => some (.entSt m st x)
  | _,_,_ => none
 | _ => none
def tabKey : Nat:=99999999
def holdsList (e : TypeId) : Bool:=match P.underlying e with
 | some (.slice _) => true
 | some (.struct fields) => fields.any fun f=>match P.underlying f.type with
  | some (.slice _) => true
  | _ => false
 | _ => false
def compOp (bor : Nat → List Nat) (ty : TypeId) (o : Op) : Option AOp :=
 match o with
 | .move x => (opd P (some ty) x).map .mv
 | .assign x => (opd P (some ty) x).map .mv
 | .pick c a b => match opd P none c,opd P (some ty) a,opd P (some ty) b with
  | some c,some a,some b => some (.pick c a b)
  | _,_,_ => none
 | .alloc t => match zeroOf P t with
  | some z => some (.alloc z.cells)
  | none => none
 | .box t x => (opd P (some t) x).map .box
 | .build t parts => match P.underlying t,zeroK P ((bor (1000000 + t)).contains 5) t with
  | some (.struct fields),some z => match mapO (fun p : Nat × Operand => match fields[p.1]? with
    | some f => match opd P (some f.type) p.2,szOf P f.type with
     | some a,some n => some (f.offset,n,a)
     | _,_ => none
    | _ => none) parts.toList with
   | some ps => if (fields.all fun f=>(szOf P f.type).isSome) && z.cells.all AV.scalar then some (.build z.cells ps) else none
   | none => none
  | some (.array _ e),some z => match szOf P e with
   | some n => match mapO (fun p : Nat × Operand => match opd P (some e) p.2 with
     | some a => some (p.1 * n,n,a)
     | none => none) parts.toList with
    | some ps => if z.cells.all AV.scalar then some (.build z.cells ps) else none
    | none => none
   | none => none
  | _,_ => none
 | .buildSlice t len parts => match P.underlying t with
  | some (.slice e) => match szOf P e,zeroOf P e with
   | some n,some z => match mapO (fun p : Nat × Operand => match opd P (some e) p.2 with
     | some a => some (p.1,a)
     | none => none) parts.toList with
    | some ps => if (bor tabKey).isEmpty = false∧holdsList P e = true then
      (if 0 < n∧len * n≤65536∧z.cells.length = n∧z.cells.all AV.scalar∧parts.toList.map (·.1) = List.range len∧(agOf P e = some true ∨ n = 1) then some (.mkTab n (ps.map (·.2))) else none)
     else if 0 < n∧len * n≤65536∧(agOf P e = some true ∨ n = 1)∧z.cells.length = n∧z.cells.all AV.scalar then some (.mkList n z len ps) else none
    | none => none
   | _,_ => none
  | _ => none
 | .load t a => match szOf P t,agOf P t,opd P none a with
  | some n,some ag,some a => if ag ∨ n = 1 then some (.load n ag a) else none
  | _,_,_ => none
 | .store t a x => match szOf P t,opd P none a,opd P (some t) x with
  | some n,some a,some x => some (.store n a x)
  | _,_,_ => none
 | .nilCheck x => (opd P none x).map .nilCk
 | .binOp op t x y _ => match opd P (some t) x,opd P (some t) y with
  | some a,some b => match op with
   | .eql | .neq => match P.underlying t with
    | some (.int _) => some (.bin op a b)
    | some .bool => some (.eq (isNeq op) none a b)
    | some .string => some (.strEq (isNeq op) a b)
    | some (.struct _) => match eqKinds P 8 t with
     | some ks => if P.eqGuardType P.depth t then none else some (.eq (isNeq op) (some ks) a b)
     | none => none
    | some (.slice _) => match y with
     | .const (.slice none 0 0) => some (.isNil (isNeq op) a)
     | _ => none
    | _ => none
   | _ => some (.bin op a b)
  | _,_ => none
 | .unOp op _ x => match op with
  | .neg | .not => (opd P none x).map (.un op)
  | _ => none
 | .convert s d x => match P.underlying s,P.underlying d with
  | some (.int _),some (.int k) => (opd P none x).map (.conv k)
  | some .string,some .string => (opd P none x).map .strId
  | some (.slice e),some .string => match P.underlying e with
   | some (.int .u8) => (opd P (some s) x).map .strOf
   | _ => none
  | _,_ => none
 | .makeFunc (.func f) first captured => match first.toList with
  | [] => (mapO (opd P none) captured.toList).map (.fn f)
  | [x] => if captured.isEmpty then (opd P none x).map (.meth f) else none
  | _ => none
 | .makeMap t none => match P.underlying t with
  | some (.map kt et) => match P.underlying kt with
   | some (.int k) => if flatVal P et then some (.mkMap k) else some (.mkMapV k)
   | _ => (keysOf P kt).map .mkMapS
  | _ => none
 | .makeSlice t l c => match P.underlying t with
  | some (.slice e) => match P.info? e,zeroOf P e,opd P none l,opd P none c with
   | some i,some z,some l,some c => if 0 < i.size∧i.bytes≤4096∧z.cells.length = i.size∧z.cells.all AV.scalar∧(agOf P e = some true ∨ i.size = 1) then some (.mkSlice i.size z l c) else none
   | _,_,_,_ => none
  | _ => none
 | .slice t x lo hi none => match P.underlying t with
  | some (.slice e) => match szOf P e,opd P (some t) x,optOpd P lo,optOpd P hi with
   | some n,some x,some lo,some hi => if 0 < n then some (.slice n x lo hi) else none
   | _,_,_,_ => none
  | _ => none
 | .slice t x lo (some hi) (some mx) => match P.underlying t with
  | some (.slice e) => match szOf P e,opd P (some t) x,optOpd P lo,opd P none hi,opd P none mx with
   | some n,some x,some lo,some hi,some mx => if 0 < n then some (.slice3 n x lo hi mx) else none
   | _,_,_,_,_ => none
  | _ => none
 | .fieldAddr t x f => match P.underlying t,opd P none x with
  | some (.struct fields),some a => match fields[f]? with
   | some fl => match szOf P fl.type with
    | some n => if n = 0 then none else some (.fieldA fl.offset a)
    | none => none
   | none => none
  | _,_ => none
 | .field t x f => match P.underlying t,opd P (some t) x with
  | some (.struct fields),some a => match fields[f]? with
   | some fl => match szOf P fl.type,agOf P fl.type with
    | some n,some ag => if ag ∨ n = 1 then some (.field fl.offset n ag a) else none
    | _,_ => none
   | none => none
  | _,_ => none
 | .indexAddr t x i => match P.underlying t,opd P (some t) x,opd P none i with
  | some (.slice e),some a,some j => match szOf P e with
   | some n => if 0 < n then some (.indexA n a j) else none
   | none => none
  | some (.array len e),some a,some j => match szOf P e with
   | some n => if 0 < n then some (.indexP len n a j) else none
   | none => none
  | _,_,_ => none
 | .index t x i => match P.underlying t,opd P (some t) x,opd P none i with
  | some (.array len e),some a,some j => match szOf P e,agOf P e with
   | some n,some ag => if ag ∨ n = 1 then some (.index len n ag a j) else none
   | _,_ => none
  | some .string,some a,some j => some (.strAt a j)
  | _,_,_ => none
 | .extract x i => (opd P none x).map (.extract · i)
 | .call c => match c.callee with
  | .value f => match opd P none f,opdsOf P (match f with | .func g => (bor g).contains 3000 | _ => false) c.args.toList c.argTypes.toList with
   | some f',some args => some (.call f' args (match f with | .func g => bor g | _ => []))
   | _,_ => none
  | .builtin .len => match c.args.toList,c.argTypes.toList with
   | [x],[t] => match P.underlying t with
    | some (.slice _) => (opd P (some t) x).map .len
    | some (.array n _) => some (.mv (.lit (.int .i64 n)))
    | some (.map _ _) => (opd P (some t) x).map .mapLen
    | some .string => (opd P (some t) x).map .strLen
    | _ => none
   | _,_ => none
  | .builtin .delete => match c.args.toList,c.argTypes.toList with
   | [m,k],[t,u] => match P.underlying t with
    | some (.map kt _) => match P.underlying kt,opd P (some t) m,opd P (some u) k with
     | some (.int kk),some m,some k => some (.mapDel kk m k)
     | _,_,_ => none
    | _ => none
   | _,_ => none
  | .builtin .max => (opdsOf P false c.args.toList c.argTypes.toList).map (.minmax true)
  | .builtin .min => (opdsOf P false c.args.toList c.argTypes.toList).map (.minmax false)
  | .builtin .clear => match c.args.toList,c.argTypes.toList with
   | [x],[t] => match P.underlying t with
    | some (.slice e) => match szOf P e,zeroOf P e,opd P (some t) x with
     | some n,some z,some x => if 0 < n∧z.cells.length = n∧z.cells.all AV.scalar then some (.clear n z x) else none
     | _,_,_ => none
    | _ => none
   | _,_ => none
  | .builtin .copy => match c.args.toList,c.argTypes.toList with
   | [d,x],[t,t2] => match P.underlying t,P.underlying t2 with
    | some (.slice e),some (.slice e2) => match szOf P e,opd P (some t) d,opd P (some t2) x with
     | some n,some d,some x => if 0 < n∧e2 = e then some (.copyB n d x) else none
     | _,_,_ => none
    | _,_ => none
   | _,_ => none
  | .builtin .append => match c.args.toList,c.argTypes.toList with
   | [d,x],[t,u] => match P.underlying t with
    | some (.slice e) => match P.info? e,opd P (some t) d,opd P (some u) x with
     | some i,some d,some x => if (bor tabKey).isEmpty = false∧holdsList P e = true then
       (if 0 < i.size∧i.bytes≤4096∧t = u∧((i.zero.map fun z=>z.cells.size) == some i.size) = true then some (.appTab i.size d x) else none) else
      if 0 < i.size∧i.bytes≤4096∧t = u∧((i.zero.map fun z=>z.cells.size) == some i.size) = true then some (.append i.size d x) else
      match P.underlying u,zeroOf P e with
      | some (.int _),some z => if 0 < i.size∧i.bytes≤4096∧z.cells.length = i.size∧z.cells.all AV.scalar then some (.appZ i.size z d x) else none
      | _,_ => none
     | _,_,_ => none
    | _ => none
   | _,_ => none
  | .builtin .cap => match c.args.toList,c.argTypes.toList with
   | [x],[t] => match P.underlying t with
    | some (.slice _) => (opd P (some t) x).map .capN
    | _ => none
   | _,_ => none
  | _ => none
 | .mapUpdate t m k x => match P.underlying t with
  | some (.map kt et) => match keysOf P kt with
   | some ks => compSetS P ks kt et m k x
   | none => match P.underlying kt,agOf P et,opd P none m,opd P none k,opd P (some et) x with
    | some (.int kk),some ag,some m,some k,some x => if flatVal P et then some (.mapSet kk m k x) else some (.mapSetV kk m k x)
    | _,_,_,_,_ => none
  | _ => none
 | .insert t m k x => match P.underlying t with
  | some (.map kt et) => match keysOf P kt with
   | some ks => compSetS P ks kt et m k x
   | none => match P.underlying kt,agOf P et,opd P none m,opd P none k,opd P (some et) x with
    | some (.int kk),some ag,some m,some k,some x => if flatVal P et then some (.mapSet kk m k x) else some (.mapSetV kk m k x)
    | _,_,_,_,_ => none
  | _ => none
 | .range t m => match P.underlying t with
  | some (.map _ _) => (opd P none m).map .rangeI
  | _ => none
 | .entry it => (opd P none it).map .entry
 | .mapEntry t m k => match P.underlying t with
  | some (.map kt et) => match keysOf P kt with
   | some ks => compEnt P ks kt et m k
   | none => none
  | _ => none
 | .entryStore t m st x => compSt P t m st x
 | .lookup t m k ok => match P.underlying t with
  | some (.map kt et) => match keysOf P kt with
   | some ks => match agOf P et,zeroOf P et,opd P none m,opd P (some kt) k with
    | some false,some z,some m,some k => if z.plain1 then some (.mapGetS ks z ok m k) else none
    | _,_,_,_ => none
   | none => match P.underlying kt,agOf P et,zeroOf P et,opd P none m,opd P none k with
    | some (.int kk),some _,some z,some m,some k => if flatVal P et then some (.mapGet kk z ok m k) else none
    | _,_,_,_,_ => none
  | _ => none
 | _ => none
def compOper (bor : Nat → List Nat) (ops : Array Oper) (o : Oper) : Option AOper :=
 match o.guard with
 | none => some ⟨o.dst,(compOp P bor o.type o.op).getD .stuck,none⟩
 | some (j,b) => match (ops[j]?).bind (·.dst) with
  | some d => some ⟨o.dst,(compOp P bor o.type o.op).getD .stuck,some (d,b)⟩
  | none => none
def AOpd.temps : AOpd → List Nat
 | .tmp t => [t]
 | .lit _ => []
def optTemps : Option AOpd → List Nat
 | some x => x.temps
 | none => []
def AOp.temps : AOp → List Nat
 | .capN x => x.temps
 | .mkTab _ xs => xs.flatMap AOpd.temps
 | .appTab _ x y => x.temps ++ y.temps
 | .appZ _ _ x y => x.temps ++ y.temps
 | .mv x | .box x | .load _ _ x | .nilCk x | .un _ x | .conv _ x | .fieldA _ x | .field _ _ _ x | .extract x _ | .len x | .strLen x | .strId x | .strOf x => x.temps
 | .pick c a b => c.temps ++ a.temps ++ b.temps
 | .alloc _ | .mkMap _ | .mkMapS _ | .mkMapV _ => []
 | .rangeI x | .entry x => x.temps
 | .build _ ps => ps.flatMap fun p=>p.2.2.temps
 | .mkList _ _ _ ps => ps.flatMap fun p=>p.2.temps
 | .store _ x y | .bin _ x y | .eq _ _ x y | .mkSlice _ _ x y | .indexA _ x y | .indexP _ _ x y | .index _ _ _ x y | .append _ x y | .copyB _ x y => x.temps ++ y.temps
 | .fn _ xs | .minmax _ xs | .prim _ xs => xs.flatMap AOpd.temps
 | .meth _ x => x.temps
 | .stuck => []
 | .isNil _ x | .clear _ _ x => x.temps
 | .slice3 _ x lo hi mx => x.temps ++ optTemps lo ++ hi.temps ++ mx.temps
 | .slice _ x lo hi => x.temps ++ optTemps lo ++ optTemps hi
 | .call f xs _ => f.temps ++ xs.flatMap AOpd.temps
 | .strAt x y | .strEq _ x y => x.temps ++ y.temps
 | .mapEnt _ _ x y => x.temps ++ y.temps
 | .entSt x y z => x.temps ++ y.temps ++ z.temps
 | .mapSet _ x y z => x.temps ++ y.temps ++ z.temps
 | .mapGet _ _ _ x y => x.temps ++ y.temps
 | .mapLen x => x.temps
 | .mapDel _ x y => x.temps ++ y.temps
 | .mapSetV _ x y z => x.temps ++ y.temps ++ z.temps
 | .mapSetS _ x y z => x.temps ++ y.temps ++ z.temps
 | .mapGetS _ _ _ x y => x.temps ++ y.temps
def AOper.temps (o : AOper) : List Nat:=o.op.temps ++ (match o.guard with | some (t,_) => [t] | none => [])
def AOper.apart (x y : AOper) : Bool :=
 (match x.dst with
  | some d => !y.temps.contains d && y.dst != some d
  | none => true) &&
 (match y.dst with
  | some d => !x.temps.contains d
  | none => true)
def befOk (bef : List (List Nat)) (j : Nat) (o : Oper) : Bool :=
 (bef.getD j []).all fun i=>o.after.any fun e=>Region.binds .any e && (e.on == i || (bef.getD e.on []).contains i)
def edgesOk (j : Nat) (o : Oper) : Bool:=o.after.all fun e=>!Region.binds .any e || decide (e.on < j)
def pairsOk (as : List AOper) (bef : List (List Nat)) : Bool :=
 as.zipIdx.all fun (y,j) => (as.take j).zipIdx.all fun (x,i) => (bef.getD j []).contains i || x.apart y
def dstOk (n : Nat) (fx : List Nat) (ops : Array Oper) : Bool:=ops.all fun o=>match o.dst with
 | some d => decide (d < n) && !fx.contains d
 | none => true
def drawOk (ops : Array Oper) (as : List AOper) (bef : List (List Nat)) : Bool :=
 (ops.toList.zipIdx.all fun (o,j) => befOk bef j o && edgesOk j o) && pairsOk as bef && decide (bef.length = ops.size)
def nextPat (ops : Array Oper) : Option (Nat × Nat × Nat):=match ops.toList with
 | [o1,o2] => match o1.op,o1.dst,o1.guard,o2.op,o2.dst,o2.guard with
  | .next (.tmp it) false,some nx,none,.extract (.tmp nx') 0,some more,none => if nx' = nx∧nx ≠ more∧it ≠ nx∧it ≠ more then some (it,nx,more) else none
  | _,_,_,_,_,_ => none
 | _ => none
def compCode (bor : Nat → List Nat) (h : Hints) (n : Nat) : List Nat → Nat → Code → Option ACode
 | _,_,.skip => some .skip
 | fx,_,.region id ops draw => match mapO (compOper P bor ops) ops.toList with
  | none => none
  | some as =>
   let bef:=if draw then (lk id h.befs).getD [] else []
   if dstOk n fx ops && (!draw || drawOk ops as bef) then some (meetC (lk id h.meets) (if draw && as.any (fun o=>o.op.isEnt) then .regionX as bef ((lk id h.regs).getD []) else .region as draw bef ((lk id h.regs).getD []))) else none
 | fx,blk,.seq a b => match compCode bor h n fx blk a,compCode bor h n fx blk b with
  | some a,some b => some (.seq a b)
  | _,_ => none
 | fx,blk,.cond c a b => match opd P none c,compCode bor h n fx blk a,compCode bor h n fx blk b with
  | some c,some a,some b => some (.cond c a b)
  | _,_,_ => none
 | fx,_,.block id c => match compCode bor h n fx id c with
  | some c => some (.block id c)
  | none => none
 | fx,blk,.loop (.seq (.region id ops false) c) => match nextPat ops with
  | some (it,nx,more) => match compCode bor h n fx blk c with
   | some c => if dstOk n fx ops then some (.rangeM ((lk blk h.loops).getD []) it nx more c) else none
   | none => none
  | none => match compCode bor h n fx blk (.seq (.region id ops false) c) with
   | some c => some (.loop ((lk blk h.loops).getD []) c)
   | none => none
 | fx,blk,.loop c => match compCode bor h n fx blk c with
  | some c => some (.loop ((lk blk h.loops).getD []) c)
  | none => none
 | _,_,.exit id => some (.exit id)
 | _,_,.ret => some .ret
 | _,blk,.rangeFunc f ps a b =>
  let keep:=(lk blk h.loops).getD []
  match opd P none f,compCode bor h n keep blk a,compCode bor h n keep blk b with
  | some f,some a,some b => if (ps.all fun t=>decide (t < n) && !keep.contains t) then some (.rangeF f ps.toList a b keep) else none
  | _,_,_ => none
 | _,_,_ => none
def compRes : ResultVar → Option ARes
 | .tmp t => some (.tmp t)
 | .cell a t => match szOf P t,agOf P t with
  | some n,some ag => if ag ∨ n = 1 then some (.cell a n ag) else none
  | _,_ => none
def tabBor (h : Hints) (bor : Nat → List Nat) : Nat → List Nat:=if (lk tabKey h.meets).isSome then fun g=>if g = tabKey then [1] else bor g else bor
def compFn (bor : Nat → List Nat) (h : Hints) (fn : Func) : Option AFn :=
 match fn.body with
 | none => none
 | some c => match compCode P (tabBor h bor) h fn.ntmps [] 0 c,mapO (compRes P) fn.results.toList with
  | some c, some rs => if fn.params.size + fn.nfree ≤ fn.ntmps ∧ (fn.name == "runtime.NumGoroutine") = false then some ⟨fn.params.size + fn.nfree, rs, c⟩ else none
  | _,_ => none
end
end Go.Abs
