/-
 Chapter 1: designs and their errors. No condition beyond those that each theorem names.
-/
import Derived.Test.YtlcikiobkmajbaaK
import Derived.Test.YtlcikiobkmajbaaFns
import Derived.Test.YtlcikiobkmajbaaEvI
import Derived.Test.YtlcikiobkmajbaaBits
set_option linter.all false
namespace Go.Abs
set_option maxRecDepth 10000
set_option maxHeartbeats 2000000
structure DesA where
 hk : Int
 rows : List Int
def DesA.av (d : DesA) : AV:=.agg [iv d.hk,.list 1 (d.rows.map fun n=>iv n)]
structure DesN where
 hk : Nat
 rows : List Nat
def DesN.a (d : DesN) : DesA:=⟨d.hk,d.rows.map fun n : Nat => (n : Int)⟩
def DesN.av (d : DesN) : AV:=.agg [iv (d.hk : Int),.list 1 (d.rows.map fun n : Nat => iv (n : Int))]
theorem DesN.a_av (d : DesN) : d.a.av = d.av:=by
 unfold DesA.av DesN.a DesN.av;rw [List.map_map]; rfl
structure DesN.Ok (d : DesN) : Prop where
 h1 : 1≤d.hk
 h24 : d.hk≤24
 r1 : 1≤d.rows.length
 r60 : d.rows.length≤60
 lt : ∀ r ∈ d.rows,r < 2 ^ d.hk
abbrev rowOk (hk : Int) (r : Int) : Prop:=0≤r∧r≤((2 ^ hk.toNat : Nat) : Int) - 1
def checkD (d : DesA) : Int:=if ¬ (1≤d.hk∧d.hk≤24) then 2 else if 60 < d.rows.length then 5 else if d.rows.length = 0 then 7 else if d.rows.all (fun r=>decide (rowOk d.hk r)) then 0 else 2
theorem checkD_zero {d : DesA} (h : checkD d = 0) : ∃ n : DesN,n.Ok∧d = n.a:=by
 unfold checkD at h;repeat' split at h
 all_goals first | (exfalso; omega) | skip
 rename_i h1 h2 h3 h4;obtain ⟨hk,rows⟩:=d;dsimp only at *;have hr : ∀ r ∈ rows,rowOk hk r:=fun r hr => of_decide_eq_true (List.all_eq_true.1 h4 r hr)
 have hm : (rows.map Int.toNat).map (fun n : Nat => (n : Int)) = rows:=by
  rw [List.map_map]
  conv => rhs; rw [← List.map_id rows]
  refine List.map_congr_left fun r hm => ?_
  have:=(hr r hm).1;simp only [Function.comp,id]; omega
 refine ⟨⟨hk.toNat,rows.map Int.toNat⟩,⟨by dsimp only; omega,by dsimp only; omega,by simp; omega,by simp; omega,fun r hm' => ?_⟩,?_⟩
 ·dsimp only at hm'
  obtain ⟨q,hq,rfl⟩:=List.mem_map.1 hm';have:=hr q hq;dsimp only [rowOk] at *;omega
 ·unfold DesN.a
  simp only [DesA.mk.injEq];exact ⟨by omega,hm.symm⟩
theorem checkD_ok {d : DesN} (h : d.Ok) : checkD d.a = 0:=by
 have h1:=h.h1;have h2:=h.h24;have h3:=h.r1;have h4:=h.r60;unfold checkD DesN.a;dsimp only;rw [if_neg (by omega),if_neg (by rw [List.length_map]; omega),if_neg (by rw [List.length_map]; omega),if_pos]
 refine List.all_eq_true.2 fun r hr => decide_eq_true ?_
 obtain ⟨q,hq,rfl⟩:=List.mem_map.1 hr;have:=h.lt q hq;dsimp only [rowOk];rw [show ((d.hk : Int)).toNat = d.hk by omega]
 omega
theorem wrap_u64 {n : Int} (h1 : 0≤n) (h2 : n < 18446744073709551616) : IntKind.wrap .u64 n = n:=by
 unfold IntKind.wrap; simp [IntKind.min,IntKind.max,IntKind.signed,IntKind.bits]; omega
@[go_sem] theorem int_plain (l : List Int) : (l.map fun n=>AV.int .i64 n).all AV.plain = true:=by
 simp [AV.plain,AV.plain1]
@[go_sem] theorem nat_plain (l : List Nat) : (l.map fun n : Nat => AV.int .i64 (n : Int)).all AV.plain = true:=by
 simp [AV.plain,AV.plain1]
def idxF {α : Type} (p : α → Bool) (l : List α) : Int:=if l.any p then (l.findIdx p : Int) else -1
theorem idxF_at {α : Type} {p : α → Bool} {l : List α} {i : Nat} (h : i < l.length) (hp : p l[i] = true) (hn : ∀ j (hj : j < l.length),j < i → p l[j] = false) : idxF p l = i:=by
 have h1 : l.any p = true:=List.any_eq_true.2 ⟨l[i],List.getElem_mem h,hp⟩;have h2 : l.findIdx p = i:=(List.findIdx_eq h).2 ⟨hp,fun j hj => hn j (by omega) hj⟩
 simp [idxF,h1,h2]
theorem idxF_no {α : Type} {p : α → Bool} {l : List α} (hn : ∀ j (hj : j < l.length),p l[j] = false) : idxF p l = -1:=by
 have h1 : l.any p = false:=by
  rw [List.any_eq_false];intro x hx;obtain ⟨j,hj,rfl⟩:=List.getElem_of_mem hx;simp [hn j hj]
 simp [idxF,h1]
theorem idxF_ge {α : Type} (p : α → Bool) (l : List α) : decide (0≤idxF p l) = l.any p:=by
 unfold idxF; split <;> simp_all
theorem index_ints (l : List Int) (p : Int → Bool) (f : Nat) (cap : List AV) (hc2 : ∃ x y,cap = [.iptr x 0,.iptr y 0]) (hl : l.length < 1000000000) (hp : ∀ n ∈ l,lim F f (iv n :: cap) = some (.bool (p n),[])) :
  lim F 119 [.list 1 (l.map fun n=>iv n),.func f cap] = some (iv (idxF p l),[]):=by
 obtain ⟨x,y,rfl⟩:=hc2;refine Yr (fn:=a119) (k:=2) (res:=[.tmp 4]) rfl rfl rfl (by simp -implicitDefEqProofs(maxSteps:=9^7)(disch:=first|exact Yo rfl|omega|(simp only[go_sem]<;>omega)|fail)only[go_sem]) ?_
 try delta mvA
 try delta opA
 try delta tA
 simp -implicitDefEqProofs(maxSteps:=9^7)(disch:=first|exact Yo rfl|omega|(simp only[go_sem]<;>omega)|fail)only[go_sem]
 repeat(first|apply Ya|apply Yb|apply Yc|((first|apply Yd|apply Ye|apply Yf|apply Yg|apply Yh);simp -implicitDefEqProofs(maxSteps:=9^7)(disch:=first|exact Yo rfl|omega|(simp only[go_sem]<;>omega)|fail)only[go_sem]<;>try with_reducible rfl)|apply Yi|apply Yj|apply Yk|apply Yl|apply Ym|apply Yn)
 apply Yt l.length (fun i=>⟨[(0,.list 1 (l.map fun n=>iv n)),(1,.func f [.iptr x 0,.iptr y 0]),(7,iv l.length),(8,iv i)],[],[],10000000⟩) (fun i=>∀ j (hj : j < l.length),j < i → p l[j] = false)
 ·simp -implicitDefEqProofs(maxSteps:=9^7)(disch:=first|exact Yo rfl|omega|(simp only[go_sem]<;>omega)|fail)only[go_sem,norm_eq,Ok.some]
  rfl
 ·intro j hj h; omega
 intro i hi hn;by_cases h : i < l.length
 ·have hc:=hp l[i] (List.getElem_mem h)
  cases hb : p l[i] with
  | true =>
   rw [hb] at hc;repeat(first|apply Ya|apply Yb|apply Yc|((first|apply Yd|apply Ye|apply Yf|apply Yg|apply Yh);simp -implicitDefEqProofs(maxSteps:=9^7)(disch:=first|exact Yo rfl|omega|(simp only[go_sem]<;>omega)|fail)only[go_sem,h,List.getElem?_map,List.getElem?_eq_getElem h,Option.map_some,hc,Int.ofNat_lt]<;>try with_reducible rfl)|apply Yi|apply Yj|apply Yk|apply Yl|apply Ym|apply Yn)
   rw [idxF_at h hb hn]
  | false =>
   rw [hb] at hc;repeat(first|apply Ya|apply Yb|apply Yc|((first|apply Yd|apply Ye|apply Yf|apply Yg|apply Yh);simp -implicitDefEqProofs(maxSteps:=9^7)(disch:=first|exact Yo rfl|omega|(simp only[go_sem]<;>omega)|fail)only[go_sem,h,List.getElem?_map,List.getElem?_eq_getElem h,Option.map_some,hc,Int.ofNat_lt]<;>try with_reducible rfl)|apply Yi|apply Yj|apply Yk|apply Yl|apply Ym|apply Yn)
   apply Ys
   ·simp -implicitDefEqProofs(maxSteps:=9^7)(disch:=first|exact Yo rfl|omega|(simp only[go_sem]<;>omega)|fail)only[go_sem,norm_eq,Ok.some]; with_reducible rfl
   refine ⟨h,by simp,fun j hj hji => ?_⟩
   by_cases e : j = i
   ·subst e; exact hb
   ·exact hn j hj (by omega)
 ·repeat(first|apply Ya|apply Yb|apply Yc|((first|apply Yd|apply Ye|apply Yf|apply Yg|apply Yh);simp -implicitDefEqProofs(maxSteps:=9^7)(disch:=first|exact Yo rfl|omega|(simp only[go_sem]<;>omega)|fail)only[go_sem,h,Int.ofNat_lt]<;>try with_reducible rfl)|apply Yi|apply Yj|apply Yk|apply Yl|apply Ym|apply Yn)
  rw [idxF_no fun j hj => hn j hj (by omega)]
theorem contains_ints (l : List Int) (p : Int → Bool) (f : Nat) (x y : AV) (hl : l.length < 1000000000) (hp : ∀ n ∈ l,lim F f [iv n,.iptr x 0,.iptr y 0] = some (.bool (p n),[])) :
  lim F 87 [.list 1 (l.map fun n=>iv n),.func f [.iptr x 0,.iptr y 0]] = some (.bool (l.any p),[]):=by
 have h:=index_ints l p f [.iptr x 0,.iptr y 0] ⟨x,y,rfl⟩ hl hp;refine Yr (fn:=a87) (k:=2) (res:=[.tmp 4]) rfl rfl rfl (by simp -implicitDefEqProofs(maxSteps:=9^7)(disch:=first|exact Yo rfl|omega|(simp only[go_sem]<;>omega)|fail)only[go_sem]) ?_
 try delta mvA
 try delta opA
 try delta tA
 simp -implicitDefEqProofs(maxSteps:=9^7)(disch:=first|exact Yo rfl|omega|(simp only[go_sem]<;>omega)|fail)only[go_sem]
 repeat(first|apply Ya|apply Yb|apply Yc|((first|apply Yd|apply Ye|apply Yf|apply Yg|apply Yh);simp -implicitDefEqProofs(maxSteps:=9^7)(disch:=first|exact Yo rfl|omega|(simp only[go_sem]<;>omega)|fail)only[go_sem,h,idxF_ge]<;>try with_reducible rfl)|apply Yi|apply Yj|apply Yk|apply Yl|apply Ym|apply Yn)
end Go.Abs
