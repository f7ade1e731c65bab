/-
 Several texts: G1, G2, G3, G4, G6.
-/
import Derived.Test.YtlcikiobkmajbaaK
import Derived.Test.YtlcikiobkmajbaaP1
import Derived.Test.YtlcikiobkmajbaaFns
set_option linter.all false
namespace Go.Abs.Beam
set_option maxRecDepth 10000
set_option maxHeartbeats 1000000
structure PairT where
 dr : Int
 dn : Int
def PairT.av (p : PairT) : AV:=.agg [iv p.dr,iv p.dn]
abbrev PairT.Ok (p : PairT) : Prop:=(1≤p.dr∧p.dr≤100)∧(1≤p.dn∧p.dn≤100)
structure TakeA where
 rat : Int
 step : Int
 pairs : List PairT
 round : Int
def TakeA.av (t : TakeA) : AV:=.agg [iv t.rat,iv t.step,.list 2 (t.pairs.map PairT.av),iv t.round]
def idxF {α : Type} (p : α → Bool) (l : List α) : Int:=if l.any p then (l.findIdx p : Int) else -1
theorem idxF_at {α : Type} {p : α → Bool} {l : List α} {i : Nat} (h : i < l.length) (hp : p l[i] = true) (hn : ∀ j (hj : j < l.length),j < i → p l[j] = false) : idxF p l = i:=by
 have h1 : l.any p = true:=List.any_eq_true.2 ⟨l[i],List.getElem_mem h,hp⟩;have h2 : l.findIdx p = i:=(List.findIdx_eq h).2 ⟨hp,fun j hj => hn j (by omega) hj⟩
 simp [idxF,h1,h2]
theorem idxF_no {α : Type} {p : α → Bool} {l : List α} (hn : ∀ j (hj : j < l.length),p l[j] = false) : idxF p l = -1:=by
 have h1 : l.any p = false:=by
  rw [List.any_eq_false];intro x hx;obtain ⟨j,hj,rfl⟩:=List.getElem_of_mem hx;simp [hn j hj]
 simp [idxF,h1]
theorem idxF_ge {α : Type} (p : α → Bool) (l : List α) : decide (0≤idxF p l) = l.any p:=by
 unfold idxF; split <;> simp_all
theorem index_ints (l : List Int) (p : Int → Bool) (f : Nat) (x y : AV) (hl : l.length < 1000000000) (hp : ∀ n ∈ l,lim F f [iv n,.iptr x 0,.iptr y 0] = some (.bool (p n),[])) :
  lim F 119 [.list 1 (l.map fun n=>iv n),.func f [.iptr x 0,.iptr y 0]] = some (iv (idxF p l),[]):=by
 refine Yr (fn:=a119) (k:=2) (res:=[.tmp 4]) rfl rfl rfl (by simp -implicitDefEqProofs(maxSteps:=9^7)(disch:=first|exact Yo rfl|omega|(simp only[go_sem]<;>omega)|fail)only[go_sem]) ?_
 try delta mvA
 try delta opA
 try delta tA
 simp -implicitDefEqProofs(maxSteps:=9^7)(disch:=first|exact Yo rfl|omega|(simp only[go_sem]<;>omega)|fail)only[go_sem]
 repeat(first|apply Ya|apply Yb|apply Yc|((first|apply Yd|apply Ye|apply Yf|apply Yg|apply Yh);simp -implicitDefEqProofs(maxSteps:=9^7)(disch:=first|exact Yo rfl|omega|(simp only[go_sem]<;>omega)|fail)only[go_sem]<;>try with_reducible rfl)|apply Yi|apply Yj|apply Yk|apply Yl|apply Ym|apply Yn)
 apply Yt l.length (fun i=>⟨[(0,.list 1 (l.map fun n=>iv n)),(1,.func f [.iptr x 0,.iptr y 0]),(7,iv l.length),(8,iv i)],[],[],10000000⟩) (fun i=>∀ j (hj : j < l.length),j < i → p l[j] = false)
 ·simp -implicitDefEqProofs(maxSteps:=9^7)(disch:=first|exact Yo rfl|omega|(simp only[go_sem]<;>omega)|fail)only[go_sem,norm_eq,Ok.some]
  rfl
 ·intro j hj h; omega
 intro i hi hn;by_cases h : i < l.length
 ·have hc:=hp l[i] (List.getElem_mem h)
  cases hb : p l[i] with
  | true =>
   rw [hb] at hc;repeat(first|apply Ya|apply Yb|apply Yc|((first|apply Yd|apply Ye|apply Yf|apply Yg|apply Yh);simp -implicitDefEqProofs(maxSteps:=9^7)(disch:=first|exact Yo rfl|omega|(simp only[go_sem]<;>omega)|fail)only[go_sem,h,List.getElem?_map,List.getElem?_eq_getElem h,Option.map_some,hc,Int.ofNat_lt]<;>try with_reducible rfl)|apply Yi|apply Yj|apply Yk|apply Yl|apply Ym|apply Yn)
   rw [idxF_at h hb hn]
  | false =>
   rw [hb] at hc;repeat(first|apply Ya|apply Yb|apply Yc|((first|apply Yd|apply Ye|apply Yf|apply Yg|apply Yh);simp -implicitDefEqProofs(maxSteps:=9^7)(disch:=first|exact Yo rfl|omega|(simp only[go_sem]<;>omega)|fail)only[go_sem,h,List.getElem?_map,List.getElem?_eq_getElem h,Option.map_some,hc,Int.ofNat_lt]<;>try with_reducible rfl)|apply Yi|apply Yj|apply Yk|apply Yl|apply Ym|apply Yn)
   apply Ys
   ·simp -implicitDefEqProofs(maxSteps:=9^7)(disch:=first|exact Yo rfl|omega|(simp only[go_sem]<;>omega)|fail)only[go_sem,norm_eq,Ok.some]; with_reducible rfl
   refine ⟨h,by simp,fun j hj hji => ?_⟩
   by_cases e : j = i
   ·subst e; exact hb
   ·exact hn j hj (by omega)
 ·repeat(first|apply Ya|apply Yb|apply Yc|((first|apply Yd|apply Ye|apply Yf|apply Yg|apply Yh);simp -implicitDefEqProofs(maxSteps:=9^7)(disch:=first|exact Yo rfl|omega|(simp only[go_sem]<;>omega)|fail)only[go_sem,h,Int.ofNat_lt]<;>try with_reducible rfl)|apply Yi|apply Yj|apply Yk|apply Yl|apply Ym|apply Yn)
  rw [idxF_no fun j hj => hn j hj (by omega)]
theorem contains_ints (l : List Int) (p : Int → Bool) (f : Nat) (x y : AV) (hl : l.length < 1000000000) (hp : ∀ n ∈ l,lim F f [iv n,.iptr x 0,.iptr y 0] = some (.bool (p n),[])) :
  lim F 87 [.list 1 (l.map fun n=>iv n),.func f [.iptr x 0,.iptr y 0]] = some (.bool (l.any p),[]):=by
 have h:=index_ints l p f x y hl hp;refine Yr (fn:=a87) (k:=2) (res:=[.tmp 4]) rfl rfl rfl (by simp -implicitDefEqProofs(maxSteps:=9^7)(disch:=first|exact Yo rfl|omega|(simp only[go_sem]<;>omega)|fail)only[go_sem]) ?_
 try delta mvA
 try delta opA
 try delta tA
 simp -implicitDefEqProofs(maxSteps:=9^7)(disch:=first|exact Yo rfl|omega|(simp only[go_sem]<;>omega)|fail)only[go_sem]
 repeat(first|apply Ya|apply Yb|apply Yc|((first|apply Yd|apply Ye|apply Yf|apply Yg|apply Yh);simp -implicitDefEqProofs(maxSteps:=9^7)(disch:=first|exact Yo rfl|omega|(simp only[go_sem]<;>omega)|fail)only[go_sem,h,idxF_ge]<;>try with_reducible rfl)|apply Yi|apply Yj|apply Yk|apply Yl|apply Ym|apply Yn)
abbrev TakeA.Ok (t : TakeA) : Prop:=((1≤t.rat∧t.rat≤100)∧(1≤t.step∧t.step≤5)∧(1≤t.round∧t.round≤500000))∧∀ p ∈ t.pairs,p.Ok
instance (t : TakeA) : Decidable t.Ok:=by unfold TakeA.Ok; infer_instance
def checkT (t : TakeA) : Int:=if 2 < t.pairs.length then 5 else if t.Ok then 0 else 2
end Go.Abs.Beam
set_option linter.all false
namespace Go.Abs.Beam
set_option maxRecDepth 10000
set_option maxHeartbeats 1000000
def numP : List PairT → Int
 | [] => 1
 | p :: l => p.dr * numP l
def denP : List PairT → Int
 | [] => 1
 | p :: l => p.dn * denP l
def numT (t : TakeA) : Int:=t.round * t.step * numP t.pairs
def denT (t : TakeA) : Int:=t.rat * denP t.pairs
def numI (t : TakeA) (i : Nat) : Int:=t.round * t.step * numP (t.pairs.take i)
def denI (t : TakeA) (i : Nat) : Int:=t.rat * denP (t.pairs.take i)
def gT (t : TakeA) : Nat:=Nat.gcd (numT t).toNat (denT t).toNat
def nT (t : TakeA) : Int:=((numT t).toNat / gT t : Nat)
def dT (t : TakeA) : Int:=((denT t).toNat / gT t : Nat)
def takeV (t : TakeA) : AV:=.agg [iv (nT t),iv (dT t)]
theorem tmod_nat (a b : Nat) : Int.tmod (a : Int) (b : Int) = ((a % b : Nat) : Int):=rfl
theorem tdiv_nat (a b : Nat) : Int.tdiv (a : Int) (b : Int) = ((a / b : Nat) : Int):=rfl
def picksOf (t : TakeA) (n : Int) : Int:=n * dT t / nT t
def picksE (t : TakeA) (n : Int) : Int:=if checkT t = 0 then if 0≤n∧n≤10000000000 then 0 else 3 else checkT t
end Go.Abs.Beam
set_option linter.all false
namespace Go.Abs.Beam
set_option maxRecDepth 10000
set_option maxHeartbeats 1000000
def firstP (p : Nat → Bool) (N : Nat) : Nat:=(List.range N).findIdx p
theorem wrap_u64 {n : Int} (h1 : 0≤n) (h2 : n < 18446744073709551616) : IntKind.wrap .u64 n = n:=by
 simp [IntKind.wrap,IntKind.signed,IntKind.bits]; omega
end Go.Abs.Beam
set_option linter.all false
namespace Go.Abs.Beam
set_option maxRecDepth 10000
set_option maxHeartbeats 1000000
abbrev SpanOk (a b least most : Int) : Prop:=least≤a∧a≤b∧b≤most
def insideV (a b n : Int) : Int:=a + n % (b - a + 1)
end Go.Abs.Beam
set_option linter.all false
namespace Go.Abs.Beam
set_option maxRecDepth 10000
set_option maxHeartbeats 2000000
def longR (n d p r : Int) : Int:=p * n * (1000 - r) / (d * 1000)
structure ROk (n d p : Int) : Prop where
 n0 : 1≤n
 n1 : n≤25000000000
 d0 : 1≤d
 d1 : d≤1000000
 p0 : 0≤p
 p1 : p≤100000
theorem ROk.a {n d p : Int} (h : ROk n d p) : 0≤p * n∧p * n≤2500000000000000:=by
 have h1 : 0≤p * n:=Int.mul_nonneg h.p0 (by have:=h.n0; omega)
 have h2:=Int.mul_le_mul h.p1 h.n1 (by have:=h.n0; omega) (by omega)
 exact ⟨h1,by omega⟩
theorem ROk.b {n d p r : Int} (h : ROk n d p) (h0 : 0≤r) (h1 : r≤1000) : 0≤p * n * (1000 - r)∧p * n * (1000 - r)≤2500000000000000000:=by
 have ha:=h.a;have h1' : 0≤p * n * (1000 - r):=Int.mul_nonneg ha.1 (by omega)
 have h2:=Int.mul_le_mul ha.2 (show 1000 - r≤1000 by omega) (by omega) (by omega)
 exact ⟨h1',by omega⟩
theorem ROk.l {n d p r : Int} (h : ROk n d p) (h0 : 0≤r) (h1 : r≤1000) : 0≤longR n d p r∧longR n d p r≤2500000000000000000:=by
 have hb:=h.b h0 h1;have hd:=h.d0;have h3 : 0≤longR n d p r:=Int.ediv_nonneg hb.1 (by omega)
 have h4 : longR n d p r≤p * n * (1000 - r):=Int.ediv_le_self _ hb.1;exact ⟨h3,by omega⟩
theorem ROk.mono {n d p r r' : Int} (h : ROk n d p) (h0 : r≤r') : longR n d p r'≤longR n d p r:=by
 have ha:=h.a;have h1 : p * n * (1000 - r')≤p * n * (1000 - r):=Int.mul_le_mul_of_nonneg_left (by omega) ha.1
 exact Int.ediv_le_ediv (by have:=h.d0; omega) h1
def longT (t : TakeA) (p r : Int) : Int:=longR (nT t) (dT t) p r
def figE (t : TakeA) (a b p : Int) : Int:=if checkT t = 0 then if SpanOk a b 0 200 then if 1≤p∧p≤100000 then 0 else 3 else 2 else checkT t
end Go.Abs.Beam
