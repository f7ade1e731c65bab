/-
 Several texts: M1, M3, M4, KL, M2, M5, P2, R1, P3, P4, V0.
-/
import Derived.Test.YtlcikiobkmajbaaP1
import Derived.Test.YtlcikiobkmajbaaFns
import Derived.Test.YtlcikiobkmajbaaK
import Derived.Test.YtlcikiobkmajbaaEvI
set_option linter.all false
namespace Go.Abs
set_option maxRecDepth 10000
def gb (l : List Bool) (i : Nat) : Bool:=l.getD (i % l.length) false
def begs (l : List Bool) (i : Nat) : Bool:=gb l i != gb l (i + l.length - 1)
def lenT (l : List Bool) (i : Nat) : Nat:=1 + (List.range l.length).findIdx fun k=>gb l (i + 1 + k) != gb l i
theorem gb_add (l : List Bool) (i : Nat) : gb l (i + l.length) = gb l i:=by
 unfold gb; rw [Nat.add_mod_right]
structure LenIs (l : List Bool) (i n : Nat) : Prop where
 pos : 1≤n
 lt : n < l.length
 same : ∀ k,k < n → gb l (i + k) = gb l i
 other : gb l (i + n) ≠ gb l i
theorem LenIs.eq {l : List Bool} {i n m : Nat} (h : LenIs l i n) (h' : LenIs l i m) : n = m:=by
 rcases Nat.lt_trichotomy n m with h1 | h1 | h1
 ·exact absurd (h'.same n h1) h.other
 ·exact h1
 ·exact absurd (h.same m h1) h'.other
theorem LenIs.begs {l : List Bool} {i n : Nat} (h : LenIs l i n) : ∀ k,1≤k → k < n → Go.Abs.begs l (i + k) = false:=fun k h1 h2 => by
 have a:=h.same k h2;have b:=h.same (k - 1) (by omega)
 have e : gb l (i + k + l.length - 1) = gb l (i + (k - 1)):=by
  rw [show i + k + l.length - 1 = i + (k - 1) + l.length by omega,gb_add]
 unfold Go.Abs.begs;rw [e,a,b]; simp
theorem LenIs.end {l : List Bool} {i n : Nat} (h : LenIs l i n) : Go.Abs.begs l (i + n) = true:=by
 have b:=h.same (n - 1) (by have:=h.pos; omega)
 have e : gb l (i + n + l.length - 1) = gb l (i + (n - 1)):=by
  have:=h.pos;rw [show i + n + l.length - 1 = i + (n - 1) + l.length by omega,gb_add]
 unfold Go.Abs.begs;rw [e,b];simpa using h.other
structure RunT where
 first : Nat
 len : Nat
 up : Bool
def RunT.av (x : RunT) : AV:=.agg [iv (x.first : Int),iv (x.len : Int),.bool x.up]
def runAt (l : List Bool) (i : Nat) : RunT:=⟨i,lenT l i,gb l i⟩
def runsTo (l : List Bool) (i : Nat) : List RunT:=((List.range i).filter (begs l)).map (runAt l)
def runsFrom (l : List Bool) (i : Nat) : List RunT:=((List.range' i (l.length - i)).filter (begs l)).map (runAt l)
def anyTo (l : List Bool) (i : Nat) : Bool:=(List.range i).any (begs l)
def lastT (l : List Bool) : List RunT:=if anyTo l l.length then [] else [⟨0,1000,gb l 0⟩]
def runsT (l : List Bool) : List RunT:=runsTo l l.length ++ lastT l
end Go.Abs
set_option linter.all false
namespace Go.Abs
set_option maxRecDepth 10000
def rowTo (g : Nat → Bool) : Nat → Nat
 | 0 => 0
 | n + 1 => rowTo g n ||| (if g n then 2 ^ n else 0)
def rowOf (l : List Bool) : Nat:=l.foldr (fun b a => a * 2 + if b then 1 else 0) 0
end Go.Abs
set_option linter.all false
namespace Go.Abs
set_option maxRecDepth 10000
def perAt (n : Nat) (P : Nat → Bool) (by' : Nat) : Bool:=decide (1≤by') && decide (n % by' = 0) && P by'
def perT (n : Nat) (P : Nat → Bool) : Nat:=((List.range n).find? (perAt n P)).getD n
end Go.Abs
set_option linter.all false
namespace Go.Abs
set_option maxRecDepth 10000
set_option maxHeartbeats 8000000
structure FloatT where
 pick : Int
 hook : Int
 len : Int
 up : Bool
def FloatT.av (f : FloatT) : AV:=.agg [iv f.pick,iv f.hook,iv f.len,.bool f.up]
def mxStep (b : Bool) (m : Int) (f : FloatT) : Int:=if f.up = b then max m f.len else m
def mxF (b : Bool) (l : List FloatT) : Int:=l.foldl (mxStep b) 0
def keyI : AV → Int
 | .int _ n => n
 | _ => 0
def e1L : AV × AV:=(iv 1,.agg [.ptr 128 0 0,.ptr 128 0 1])
def e2L : AV × AV:=(iv 2,.agg [.ptr 128 0 3,.ptr 128 0 2])
end Go.Abs
set_option linter.all false
namespace Go.Abs
set_option maxRecDepth 10000
def lengthT (l : List Bool) (a : Nat) : Nat:=if begs l a then lenT l a else if anyTo l l.length then 0 else if a = 0 then 1000 else 0
def refTo (l : List Bool) (b : Int) (k : Nat) : List RunT:=((List.range k).filter fun k=>decide (lengthT l k ≠ 0) && decide (b < lengthT l k)).map fun k=>⟨k,lengthT l k,gb l k⟩
def floatW (i : Nat) (x : RunT) : FloatT:=⟨i,x.first,x.len,x.up⟩
def floatH (i : Nat) (x : RunT) : FloatT:=⟨x.first,i,x.len,x.up⟩
def pickR (d : DesN) (i : Nat) : List Bool:=(List.range d.hk).map fun h=>(d.rows.getD i 0).testBit h
def hookR (d : DesN) (h : Nat) : List Bool:=d.rows.map fun r=>r.testBit h
def flTo (R : Nat → List Bool) (mk : Nat → RunT → FloatT) (i : Nat) : List FloatT:=(List.range i).flatMap fun i=>(runsT (R i)).map (mk i)
def flFrom (R : Nat → List Bool) (mk : Nat → RunT → FloatT) (i n : Nat) : List FloatT:=(List.range' i (n - i)).flatMap fun i=>(runsT (R i)).map (mk i)
def weftF (d : DesN) : List FloatT:=flTo (pickR d) floatW d.rows.length
def warpF (d : DesN) : List FloatT:=flTo (hookR d) floatH d.hk
end Go.Abs
set_option linter.all false
namespace Go.Abs
set_option maxRecDepth 10000
def sameP (d : DesN) (k : Nat) : Bool:=decide (d.rows.drop k = d.rows.take (d.rows.length - k))
def sameRow (hk k r : Nat) : Bool:=decide (r >>> k = r &&& (2 ^ (hk - k) - 1))
def sameH (d : DesN) (k : Nat) : Bool:=d.rows.all (sameRow d.hk k)
def leastP (d : DesN) : Nat:=perT d.rows.length (sameP d)
def leastH (d : DesN) : Nat:=perT d.hk (sameH d)
def wholeR (R : Nat → List Bool) (n k : Nat) : Bool:=(List.range n).all fun i=>decide (R i = R (i % k))
end Go.Abs
set_option linter.all false
namespace Go.Abs
set_option maxRecDepth 10000
set_option maxHeartbeats 2000000
def largeT (l : List DesA) : Bool:=l.any fun d=>decide (70 < d.rows.length)
def likeT (a b : DesA) : Bool:=decide (a.hk = b.hk) && decide (a.rows.length = b.rows.length)
def sameT (a b : DesA) : Bool:=decide (a.hk = b.hk) && decide (a.rows = b.rows)
end Go.Abs
set_option linter.all false
namespace Go.Abs
set_option maxRecDepth 10000
set_option maxHeartbeats 2000000
def ringV (l : List Bool) : AV:=.list 1 (l.map fun b=>.bool b)
def tabV (t : List (List Bool)) : List AV:=t.map ringV
def ptsT (r n : Nat) : List Bool:=(List.range n).map fun h=>r.testBit h
def tabN (d : DesN) (k : Nat) : List (List Bool):=(d.rows.take k).map fun r=>ptsT r d.hk
def overT (t : List (List Bool)) (n : Nat) : List (List Bool):=(List.range n).map fun h=>t.map fun l=>l.getD h false
def wholeT (t : List (List Bool)) (k : Nat) : Bool:=decide (t.length % k = 0) && wholeR (fun i=>t.getD i []) t.length k
end Go.Abs
set_option linter.all false
namespace Go.Abs
set_option maxRecDepth 10000
set_option maxHeartbeats 2000000
def runV (x : RunT) : List AV:=[x.av]
end Go.Abs
set_option linter.all false
namespace Go.Abs
set_option maxRecDepth 10000
set_option maxHeartbeats 2000000
abbrev natsV (l : List Nat) : List AV:=l.map fun n : Nat => iv (n : Int)
theorem nats_at {l : List Nat} {i : Nat} (h : i < l.length) : (natsV l)[i]? = some (iv ((l.getD i 0 : Nat) : Int)):=by
 unfold natsV;rw [List.getElem?_map,List.getElem?_eq_getElem h,List.getD_eq_getElem?_getD,List.getElem?_eq_getElem h]; rfl
end Go.Abs
set_option linter.all false
namespace Go.Abs
set_option maxRecDepth 10000
set_option maxHeartbeats 4000000
def atN (d : DesN) (p h : Nat) : Bool:=(d.rows.getD (p % d.rows.length) 0).testBit (h % d.hk)
def desV (d : DesN) : AV:=.agg [iv (d.hk : Int),.list 1 (natsV d.rows)]
end Go.Abs
