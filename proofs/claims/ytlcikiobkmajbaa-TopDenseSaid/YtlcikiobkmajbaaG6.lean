/-
 Several texts: G1, G2, G3, G4, G6.
-/
import Derived.Test.YtlcikiobkmajbaaK
import Derived.Test.YtlcikiobkmajbaaP1
import Derived.Test.YtlcikiobkmajbaaFns
set_option linter.all false
namespace Go.Abs.Beam
set_option maxRecDepth 10000
set_option maxHeartbeats 1000000
structure PairT where
 dr : Int
 dn : Int
def PairT.av (p : PairT) : AV:=.agg [iv p.dr,iv p.dn]
abbrev PairT.Ok (p : PairT) : Prop:=(1≤p.dr∧p.dr≤100)∧(1≤p.dn∧p.dn≤100)
structure TakeA where
 rat : Int
 step : Int
 pairs : List PairT
 round : Int
def TakeA.av (t : TakeA) : AV:=.agg [iv t.rat,iv t.step,.list 2 (t.pairs.map PairT.av),iv t.round]
@[go_sem] theorem pairT_plain (l : List PairT) : (l.map PairT.av).all AV.plain = true:=by
 simp [PairT.av,AV.plain,AV.plain1]
@[go_sem] theorem int_plain (l : List Int) : (l.map fun n=>AV.int .i64 n).all AV.plain = true:=by
 simp [AV.plain,AV.plain1]
theorem within1_ok (lo hi n : Int) : lim F 111 [iv n,.iptr (.agg [iv lo]) 0,.iptr (.agg [iv hi]) 0] = some (.bool (decide (n < lo ∨ hi < n)),[]):=by
 by_cases h1 : n < lo <;> by_cases h2 : hi < n
 all_goals
  refine Yr (fn:=a111) (k:=3) (res:=[.tmp 4]) rfl rfl rfl (by simp -implicitDefEqProofs(maxSteps:=9^7)(disch:=first|exact Yo rfl|omega|(simp only[go_sem]<;>omega)|fail)only[go_sem]) ?_
  try delta mvA
  try delta opA
  try delta tA
  simp -implicitDefEqProofs(maxSteps:=9^7)(disch:=first|exact Yo rfl|omega|(simp only[go_sem]<;>omega)|fail)only[go_sem]
  repeat(first|apply Ya|apply Yb|apply Yc|((first|apply Yd|apply Ye|apply Yf|apply Yg|apply Yh);simp -implicitDefEqProofs(maxSteps:=9^7)(disch:=first|exact Yo rfl|omega|(simp only[go_sem]<;>omega)|fail)only[go_sem,h1,h2]<;>try with_reducible rfl)|apply Yi|apply Yj|apply Yk|apply Yl|apply Ym|apply Yn)
def idxF {α : Type} (p : α → Bool) (l : List α) : Int:=if l.any p then (l.findIdx p : Int) else -1
theorem idxF_at {α : Type} {p : α → Bool} {l : List α} {i : Nat} (h : i < l.length) (hp : p l[i] = true) (hn : ∀ j (hj : j < l.length),j < i → p l[j] = false) : idxF p l = i:=by
 have h1 : l.any p = true:=List.any_eq_true.2 ⟨l[i],List.getElem_mem h,hp⟩;have h2 : l.findIdx p = i:=(List.findIdx_eq h).2 ⟨hp,fun j hj => hn j (by omega) hj⟩
 simp [idxF,h1,h2]
theorem idxF_no {α : Type} {p : α → Bool} {l : List α} (hn : ∀ j (hj : j < l.length),p l[j] = false) : idxF p l = -1:=by
 have h1 : l.any p = false:=by
  rw [List.any_eq_false];intro x hx;obtain ⟨j,hj,rfl⟩:=List.getElem_of_mem hx;simp [hn j hj]
 simp [idxF,h1]
theorem idxF_ge {α : Type} (p : α → Bool) (l : List α) : decide (0≤idxF p l) = l.any p:=by
 unfold idxF; split <;> simp_all
theorem index_ints (l : List Int) (p : Int → Bool) (f : Nat) (x y : AV) (hl : l.length < 1000000000) (hp : ∀ n ∈ l,lim F f [iv n,.iptr x 0,.iptr y 0] = some (.bool (p n),[])) :
  lim F 119 [.list 1 (l.map fun n=>iv n),.func f [.iptr x 0,.iptr y 0]] = some (iv (idxF p l),[]):=by
 refine Yr (fn:=a119) (k:=2) (res:=[.tmp 4]) rfl rfl rfl (by simp -implicitDefEqProofs(maxSteps:=9^7)(disch:=first|exact Yo rfl|omega|(simp only[go_sem]<;>omega)|fail)only[go_sem]) ?_
 try delta mvA
 try delta opA
 try delta tA
 simp -implicitDefEqProofs(maxSteps:=9^7)(disch:=first|exact Yo rfl|omega|(simp only[go_sem]<;>omega)|fail)only[go_sem]
 repeat(first|apply Ya|apply Yb|apply Yc|((first|apply Yd|apply Ye|apply Yf|apply Yg|apply Yh);simp -implicitDefEqProofs(maxSteps:=9^7)(disch:=first|exact Yo rfl|omega|(simp only[go_sem]<;>omega)|fail)only[go_sem]<;>try with_reducible rfl)|apply Yi|apply Yj|apply Yk|apply Yl|apply Ym|apply Yn)
 apply Yt l.length (fun i=>⟨[(0,.list 1 (l.map fun n=>iv n)),(1,.func f [.iptr x 0,.iptr y 0]),(7,iv l.length),(8,iv i)],[],[],10000000⟩) (fun i=>∀ j (hj : j < l.length),j < i → p l[j] = false)
 ·simp -implicitDefEqProofs(maxSteps:=9^7)(disch:=first|exact Yo rfl|omega|(simp only[go_sem]<;>omega)|fail)only[go_sem,norm_eq,Ok.some]
  rfl
 ·intro j hj h; omega
 intro i hi hn;by_cases h : i < l.length
 ·have hc:=hp l[i] (List.getElem_mem h)
  cases hb : p l[i] with
  | true =>
   rw [hb] at hc;repeat(first|apply Ya|apply Yb|apply Yc|((first|apply Yd|apply Ye|apply Yf|apply Yg|apply Yh);simp -implicitDefEqProofs(maxSteps:=9^7)(disch:=first|exact Yo rfl|omega|(simp only[go_sem]<;>omega)|fail)only[go_sem,h,List.getElem?_map,List.getElem?_eq_getElem h,Option.map_some,hc,Int.ofNat_lt]<;>try with_reducible rfl)|apply Yi|apply Yj|apply Yk|apply Yl|apply Ym|apply Yn)
   rw [idxF_at h hb hn]
  | false =>
   rw [hb] at hc;repeat(first|apply Ya|apply Yb|apply Yc|((first|apply Yd|apply Ye|apply Yf|apply Yg|apply Yh);simp -implicitDefEqProofs(maxSteps:=9^7)(disch:=first|exact Yo rfl|omega|(simp only[go_sem]<;>omega)|fail)only[go_sem,h,List.getElem?_map,List.getElem?_eq_getElem h,Option.map_some,hc,Int.ofNat_lt]<;>try with_reducible rfl)|apply Yi|apply Yj|apply Yk|apply Yl|apply Ym|apply Yn)
   apply Ys
   ·simp -implicitDefEqProofs(maxSteps:=9^7)(disch:=first|exact Yo rfl|omega|(simp only[go_sem]<;>omega)|fail)only[go_sem,norm_eq,Ok.some]; with_reducible rfl
   refine ⟨h,by simp,fun j hj hji => ?_⟩
   by_cases e : j = i
   ·subst e; exact hb
   ·exact hn j hj (by omega)
 ·repeat(first|apply Ya|apply Yb|apply Yc|((first|apply Yd|apply Ye|apply Yf|apply Yg|apply Yh);simp -implicitDefEqProofs(maxSteps:=9^7)(disch:=first|exact Yo rfl|omega|(simp only[go_sem]<;>omega)|fail)only[go_sem,h,Int.ofNat_lt]<;>try with_reducible rfl)|apply Yi|apply Yj|apply Yk|apply Yl|apply Ym|apply Yn)
  rw [idxF_no fun j hj => hn j hj (by omega)]
theorem contains_ints (l : List Int) (p : Int → Bool) (f : Nat) (x y : AV) (hl : l.length < 1000000000) (hp : ∀ n ∈ l,lim F f [iv n,.iptr x 0,.iptr y 0] = some (.bool (p n),[])) :
  lim F 87 [.list 1 (l.map fun n=>iv n),.func f [.iptr x 0,.iptr y 0]] = some (.bool (l.any p),[]):=by
 have h:=index_ints l p f x y hl hp;refine Yr (fn:=a87) (k:=2) (res:=[.tmp 4]) rfl rfl rfl (by simp -implicitDefEqProofs(maxSteps:=9^7)(disch:=first|exact Yo rfl|omega|(simp only[go_sem]<;>omega)|fail)only[go_sem]) ?_
 try delta mvA
 try delta opA
 try delta tA
 simp -implicitDefEqProofs(maxSteps:=9^7)(disch:=first|exact Yo rfl|omega|(simp only[go_sem]<;>omega)|fail)only[go_sem]
 repeat(first|apply Ya|apply Yb|apply Yc|((first|apply Yd|apply Ye|apply Yf|apply Yg|apply Yh);simp -implicitDefEqProofs(maxSteps:=9^7)(disch:=first|exact Yo rfl|omega|(simp only[go_sem]<;>omega)|fail)only[go_sem,h,idxF_ge]<;>try with_reducible rfl)|apply Yi|apply Yj|apply Yk|apply Yl|apply Ym|apply Yn)
theorem within_ok (lo hi : Int) (l : List Int) (hl : l.length < 1000000000) : lim F 72 [iv lo,iv hi,.list 1 (l.map fun n=>iv n)] = some (.bool (l.all fun n=>decide (lo≤n∧n≤hi)),[]):=by
 have h:=contains_ints l (fun n=>decide (n < lo ∨ hi < n)) 111 (.agg [iv lo]) (.agg [iv hi]) hl (fun n _ => within1_ok lo hi n)
 refine Yr (fn:=a72) (k:=3) (res:=[.tmp 6]) rfl rfl rfl (by simp -implicitDefEqProofs(maxSteps:=9^7)(disch:=first|exact Yo rfl|omega|(simp only[go_sem]<;>omega)|fail)only[go_sem]) ?_
 try delta mvA
 try delta opA
 try delta tA
 simp -implicitDefEqProofs(maxSteps:=9^7)(disch:=first|exact Yo rfl|omega|(simp only[go_sem]<;>omega)|fail)only[go_sem]
 repeat(first|apply Ya|apply Yb|apply Yc|((first|apply Yd|apply Ye|apply Yf|apply Yg|apply Yh);simp -implicitDefEqProofs(maxSteps:=9^7)(disch:=first|exact Yo rfl|omega|(simp only[go_sem]<;>omega)|fail)only[go_sem,h]<;>try with_reducible rfl)|apply Yi|apply Yj|apply Yk|apply Yl|apply Ym|apply Yn)
 simp only [Option.some.injEq,Prod.mk.injEq,AV.bool.injEq,and_true];rw [List.any_eq_not_all_not,Bool.not_not]
 congr 1
 funext n;by_cases h1 : n < lo <;> by_cases h2 : hi < n <;> simp [h1,h2] <;> omega
theorem teeth_ok (l : List Int) (hl : l.length < 1000000000) : lim F 71 [.list 1 (l.map fun n=>iv n)] = some (.bool (l.all fun n=>decide (1≤n∧n≤100)),[]):=by
 have h:=within_ok 1 100 l hl;refine Yr (fn:=a71) (k:=1) (res:=[.tmp 2]) rfl rfl rfl (by simp -implicitDefEqProofs(maxSteps:=9^7)(disch:=first|exact Yo rfl|omega|(simp only[go_sem]<;>omega)|fail)only[go_sem]) ?_
 try delta mvA
 try delta opA
 try delta tA
 simp -implicitDefEqProofs(maxSteps:=9^7)(disch:=first|exact Yo rfl|omega|(simp only[go_sem]<;>omega)|fail)only[go_sem]
 repeat(first|apply Ya|apply Yb|apply Yc|((first|apply Yd|apply Ye|apply Yf|apply Yg|apply Yh);simp -implicitDefEqProofs(maxSteps:=9^7)(disch:=first|exact Yo rfl|omega|(simp only[go_sem]<;>omega)|fail)only[go_sem,h]<;>try with_reducible rfl)|apply Yi|apply Yj|apply Yk|apply Yl|apply Ym|apply Yn)
theorem isLength_ok (n : Int) : lim F 34 [.list 1 [iv n]] = some (.bool (decide (0≤n∧n≤10000000000)),[]):=by
 have h:=within_ok 0 10000000000 [n] (by simp)
 simp only [List.map_cons,List.map_nil,List.all_cons,List.all_nil,Bool.and_true] at h;refine Yr (fn:=a34) (k:=1) (res:=[.tmp 2]) rfl rfl rfl (by simp -implicitDefEqProofs(maxSteps:=9^7)(disch:=first|exact Yo rfl|omega|(simp only[go_sem]<;>omega)|fail)only[go_sem]) ?_
 try delta mvA
 try delta opA
 try delta tA
 simp -implicitDefEqProofs(maxSteps:=9^7)(disch:=first|exact Yo rfl|omega|(simp only[go_sem]<;>omega)|fail)only[go_sem]
 repeat(first|apply Ya|apply Yb|apply Yc|((first|apply Yd|apply Ye|apply Yf|apply Yg|apply Yh);simp -implicitDefEqProofs(maxSteps:=9^7)(disch:=first|exact Yo rfl|omega|(simp only[go_sem]<;>omega)|fail)only[go_sem,h]<;>try with_reducible rfl)|apply Yi|apply Yj|apply Yk|apply Yl|apply Ym|apply Yn)
theorem checkP_ok (p : PairT) : lim F 70 [.agg [iv p.dr,iv p.dn]] = some (.bool (decide (¬ p.Ok)),[]):=by
 have h:=teeth_ok [p.dr,p.dn] (by simp)
 simp only [List.map_cons,List.map_nil,List.all_cons,List.all_nil,Bool.and_true] at h;refine Yr (fn:=a70) (k:=1) (res:=[.tmp 2]) rfl rfl rfl (by simp -implicitDefEqProofs(maxSteps:=9^7)(disch:=first|exact Yo rfl|omega|(simp only[go_sem]<;>omega)|fail)only[go_sem]) ?_
 try delta mvA
 try delta opA
 try delta tA
 simp -implicitDefEqProofs(maxSteps:=9^7)(disch:=first|exact Yo rfl|omega|(simp only[go_sem]<;>omega)|fail)only[go_sem]
 repeat(first|apply Ya|apply Yb|apply Yc|((first|apply Yd|apply Ye|apply Yf|apply Yg|apply Yh);simp -implicitDefEqProofs(maxSteps:=9^7)(disch:=first|exact Yo rfl|omega|(simp only[go_sem]<;>omega)|fail)only[go_sem,h]<;>try with_reducible rfl)|apply Yi|apply Yj|apply Yk|apply Yl|apply Ym|apply Yn)
 by_cases h1 : 1≤p.dr∧p.dr≤100 <;> by_cases h2 : 1≤p.dn∧p.dn≤100 <;> simp [PairT.Ok,h1,h2]
theorem index_pairs (l : List PairT) (p : PairT → Bool) (f : Nat) (hl : l.length < 1000000000) (hp : ∀ n ∈ l,lim F f [.agg [iv n.dr,iv n.dn]] = some (.bool (p n),[])) :
  lim F 112 [.list 2 (l.map PairT.av),.func f []] = some (iv (idxF p l),[]):=by
 refine Yr (fn:=a112) (k:=2) (res:=[.tmp 4]) rfl rfl rfl (by simp -implicitDefEqProofs(maxSteps:=9^7)(disch:=first|exact Yo rfl|omega|(simp only[go_sem]<;>omega)|fail)only[go_sem]) ?_
 try delta mvA
 try delta opA
 try delta tA
 simp -implicitDefEqProofs(maxSteps:=9^7)(disch:=first|exact Yo rfl|omega|(simp only[go_sem]<;>omega)|fail)only[go_sem]
 repeat(first|apply Ya|apply Yb|apply Yc|((first|apply Yd|apply Ye|apply Yf|apply Yg|apply Yh);simp -implicitDefEqProofs(maxSteps:=9^7)(disch:=first|exact Yo rfl|omega|(simp only[go_sem]<;>omega)|fail)only[go_sem]<;>try with_reducible rfl)|apply Yi|apply Yj|apply Yk|apply Yl|apply Ym|apply Yn)
 apply Yt l.length (fun i=>⟨[(0,.list 2 (l.map PairT.av)),(1,.func f []),(7,iv l.length),(8,iv i)],[],[],10000000⟩) (fun i=>∀ j (hj : j < l.length),j < i → p l[j] = false)
 ·simp -implicitDefEqProofs(maxSteps:=9^7)(disch:=first|exact Yo rfl|omega|(simp only[go_sem]<;>omega)|fail)only[go_sem,norm_eq,Ok.some]
  rfl
 ·intro j hj h; omega
 intro i hi hn;by_cases h : i < l.length
 ·have hc:=hp l[i] (List.getElem_mem h)
  cases hb : p l[i] with
  | true =>
   rw [hb] at hc;repeat(first|apply Ya|apply Yb|apply Yc|((first|apply Yd|apply Ye|apply Yf|apply Yg|apply Yh);simp -implicitDefEqProofs(maxSteps:=9^7)(disch:=first|exact Yo rfl|omega|(simp only[go_sem]<;>omega)|fail)only[go_sem,h,List.getElem?_map,List.getElem?_eq_getElem h,Option.map_some,hc,Int.ofNat_lt,PairT.av.eq_1]<;>try with_reducible rfl)|apply Yi|apply Yj|apply Yk|apply Yl|apply Ym|apply Yn)
   rw [idxF_at h hb hn]
  | false =>
   rw [hb] at hc;repeat(first|apply Ya|apply Yb|apply Yc|((first|apply Yd|apply Ye|apply Yf|apply Yg|apply Yh);simp -implicitDefEqProofs(maxSteps:=9^7)(disch:=first|exact Yo rfl|omega|(simp only[go_sem]<;>omega)|fail)only[go_sem,h,List.getElem?_map,List.getElem?_eq_getElem h,Option.map_some,hc,Int.ofNat_lt,PairT.av.eq_1]<;>try with_reducible rfl)|apply Yi|apply Yj|apply Yk|apply Yl|apply Ym|apply Yn)
   apply Ys
   ·simp -implicitDefEqProofs(maxSteps:=9^7)(disch:=first|exact Yo rfl|omega|(simp only[go_sem]<;>omega)|fail)only[go_sem,norm_eq,Ok.some]; with_reducible rfl
   refine ⟨h,by simp,fun j hj hji => ?_⟩
   by_cases e : j = i
   ·subst e; exact hb
   ·exact hn j hj (by omega)
 ·repeat(first|apply Ya|apply Yb|apply Yc|((first|apply Yd|apply Ye|apply Yf|apply Yg|apply Yh);simp -implicitDefEqProofs(maxSteps:=9^7)(disch:=first|exact Yo rfl|omega|(simp only[go_sem]<;>omega)|fail)only[go_sem,h,Int.ofNat_lt]<;>try with_reducible rfl)|apply Yi|apply Yj|apply Yk|apply Yl|apply Ym|apply Yn)
  rw [idxF_no fun j hj => hn j hj (by omega)]
theorem contains_pairs (l : List PairT) (p : PairT → Bool) (f : Nat) (hl : l.length < 1000000000) (hp : ∀ n ∈ l,lim F f [.agg [iv n.dr,iv n.dn]] = some (.bool (p n),[])) :
  lim F 73 [.list 2 (l.map PairT.av),.func f []] = some (.bool (l.any p),[]):=by
 have h:=index_pairs l p f hl hp;refine Yr (fn:=a73) (k:=2) (res:=[.tmp 4]) rfl rfl rfl (by simp -implicitDefEqProofs(maxSteps:=9^7)(disch:=first|exact Yo rfl|omega|(simp only[go_sem]<;>omega)|fail)only[go_sem]) ?_
 try delta mvA
 try delta opA
 try delta tA
 simp -implicitDefEqProofs(maxSteps:=9^7)(disch:=first|exact Yo rfl|omega|(simp only[go_sem]<;>omega)|fail)only[go_sem]
 repeat(first|apply Ya|apply Yb|apply Yc|((first|apply Yd|apply Ye|apply Yf|apply Yg|apply Yh);simp -implicitDefEqProofs(maxSteps:=9^7)(disch:=first|exact Yo rfl|omega|(simp only[go_sem]<;>omega)|fail)only[go_sem,h,idxF_ge]<;>try with_reducible rfl)|apply Yi|apply Yj|apply Yk|apply Yl|apply Ym|apply Yn)
abbrev TakeA.Ok (t : TakeA) : Prop:=((1≤t.rat∧t.rat≤100)∧(1≤t.step∧t.step≤5)∧(1≤t.round∧t.round≤500000))∧∀ p ∈ t.pairs,p.Ok
instance (t : TakeA) : Decidable t.Ok:=by unfold TakeA.Ok; infer_instance
def checkT (t : TakeA) : Int:=if 2 < t.pairs.length then 5 else if t.Ok then 0 else 2
theorem checkT_zero {t : TakeA} (h : checkT t = 0) : t.pairs.length≤2∧t.Ok:=by
 unfold checkT at h;repeat' split at h
 all_goals first | (exfalso; omega) | skip
 rename_i h1 h2;exact ⟨by omega,h2⟩
theorem Check_ok (t : TakeA) : lim F 33 [t.av] = some (iv (checkT t),[]):=by
 unfold checkT TakeA.av;by_cases h0 : 2 < t.pairs.length
 ·refine Yr (fn:=a33) (k:=1) (res:=[.tmp 2]) rfl rfl rfl (by simp -implicitDefEqProofs(maxSteps:=9^7)(disch:=first|exact Yo rfl|omega|(simp only[go_sem]<;>omega)|fail)only[go_sem]) ?_
  try delta mvA
  try delta opA
  try delta tA
  simp -implicitDefEqProofs(maxSteps:=9^7)(disch:=first|exact Yo rfl|omega|(simp only[go_sem]<;>omega)|fail)only[go_sem]
  repeat(first|apply Ya|apply Yb|apply Yc|((first|apply Yd|apply Ye|apply Yf|apply Yg|apply Yh);simp -implicitDefEqProofs(maxSteps:=9^7)(disch:=first|exact Yo rfl|omega|(simp only[go_sem]<;>omega)|fail)only[go_sem,h0,show (2 : Int) < t.pairs.length by omega]<;>try with_reducible rfl)|apply Yi|apply Yj|apply Yk|apply Yl|apply Ym|apply Yn)
 ·have w1:=teeth_ok [t.rat] (by simp)
  have w2:=within_ok 1 5 [t.step] (by simp)
  have w3:=within_ok 1 500000 [t.round] (by simp)
  have w4:=contains_pairs t.pairs (fun p=>decide (¬ p.Ok)) 70 (by omega) fun p _ => checkP_ok p
  simp only [List.map_cons,List.map_nil,List.all_cons,List.all_nil,Bool.and_true] at w1 w2 w3;by_cases h1 : 1≤t.rat∧t.rat≤100
  ·by_cases h2 : 1≤t.step∧t.step≤5
   ·by_cases h3 : 1≤t.round∧t.round≤500000
    ·cases h4 : t.pairs.any (fun p=>decide (¬ p.Ok)) with
     | true =>
      rw [h4] at w4;refine Yr (fn:=a33) (k:=1) (res:=[.tmp 2]) rfl rfl rfl (by simp -implicitDefEqProofs(maxSteps:=9^7)(disch:=first|exact Yo rfl|omega|(simp only[go_sem]<;>omega)|fail)only[go_sem]) ?_
      try delta mvA
      try delta opA
      try delta tA
      simp -implicitDefEqProofs(maxSteps:=9^7)(disch:=first|exact Yo rfl|omega|(simp only[go_sem]<;>omega)|fail)only[go_sem]
      repeat(first|apply Ya|apply Yb|apply Yc|((first|apply Yd|apply Ye|apply Yf|apply Yg|apply Yh);simp -implicitDefEqProofs(maxSteps:=9^7)(disch:=first|exact Yo rfl|omega|(simp only[go_sem]<;>omega)|fail)only[go_sem,w1,w2,w3,w4,h0,h1,h2,h3,show ¬ (2 : Int) < t.pairs.length by omega]<;>try with_reducible rfl)|apply Yi|apply Yj|apply Yk|apply Yl|apply Ym|apply Yn)
      rw [if_neg];rintro ⟨_,h⟩;obtain ⟨p,hp,hn⟩:=List.any_eq_true.1 h4;simp only [decide_eq_true_eq] at hn;exact hn (h p hp)
     | false =>
      rw [h4] at w4;refine Yr (fn:=a33) (k:=1) (res:=[.tmp 2]) rfl rfl rfl (by simp -implicitDefEqProofs(maxSteps:=9^7)(disch:=first|exact Yo rfl|omega|(simp only[go_sem]<;>omega)|fail)only[go_sem]) ?_
      try delta mvA
      try delta opA
      try delta tA
      simp -implicitDefEqProofs(maxSteps:=9^7)(disch:=first|exact Yo rfl|omega|(simp only[go_sem]<;>omega)|fail)only[go_sem]
      repeat(first|apply Ya|apply Yb|apply Yc|((first|apply Yd|apply Ye|apply Yf|apply Yg|apply Yh);simp -implicitDefEqProofs(maxSteps:=9^7)(disch:=first|exact Yo rfl|omega|(simp only[go_sem]<;>omega)|fail)only[go_sem,w1,w2,w3,w4,h0,h1,h2,h3,show ¬ (2 : Int) < t.pairs.length by omega]<;>try with_reducible rfl)|apply Yi|apply Yj|apply Yk|apply Yl|apply Ym|apply Yn)
      rw [if_pos];refine ⟨⟨h1,h2,h3⟩,fun p hp => ?_⟩
      rw [List.any_eq_false] at h4;have:=h4 p hp;simp only [decide_eq_true_eq,Classical.not_not] at this;exact this
    ·refine Yr (fn:=a33) (k:=1) (res:=[.tmp 2]) rfl rfl rfl (by simp -implicitDefEqProofs(maxSteps:=9^7)(disch:=first|exact Yo rfl|omega|(simp only[go_sem]<;>omega)|fail)only[go_sem]) ?_
     try delta mvA
     try delta opA
     try delta tA
     simp -implicitDefEqProofs(maxSteps:=9^7)(disch:=first|exact Yo rfl|omega|(simp only[go_sem]<;>omega)|fail)only[go_sem]
     repeat(first|apply Ya|apply Yb|apply Yc|((first|apply Yd|apply Ye|apply Yf|apply Yg|apply Yh);simp -implicitDefEqProofs(maxSteps:=9^7)(disch:=first|exact Yo rfl|omega|(simp only[go_sem]<;>omega)|fail)only[go_sem,w1,w2,w3,h0,h1,h2,h3,show ¬ (2 : Int) < t.pairs.length by omega]<;>try with_reducible rfl)|apply Yi|apply Yj|apply Yk|apply Yl|apply Ym|apply Yn)
     rw [if_neg fun h=>h3 h.1.2.2]
   ·refine Yr (fn:=a33) (k:=1) (res:=[.tmp 2]) rfl rfl rfl (by simp -implicitDefEqProofs(maxSteps:=9^7)(disch:=first|exact Yo rfl|omega|(simp only[go_sem]<;>omega)|fail)only[go_sem]) ?_
    try delta mvA
    try delta opA
    try delta tA
    simp -implicitDefEqProofs(maxSteps:=9^7)(disch:=first|exact Yo rfl|omega|(simp only[go_sem]<;>omega)|fail)only[go_sem]
    repeat(first|apply Ya|apply Yb|apply Yc|((first|apply Yd|apply Ye|apply Yf|apply Yg|apply Yh);simp -implicitDefEqProofs(maxSteps:=9^7)(disch:=first|exact Yo rfl|omega|(simp only[go_sem]<;>omega)|fail)only[go_sem,w1,w2,h0,h1,h2,show ¬ (2 : Int) < t.pairs.length by omega]<;>try with_reducible rfl)|apply Yi|apply Yj|apply Yk|apply Yl|apply Ym|apply Yn)
    rw [if_neg fun h=>h2 h.1.2.1]
  ·refine Yr (fn:=a33) (k:=1) (res:=[.tmp 2]) rfl rfl rfl (by simp -implicitDefEqProofs(maxSteps:=9^7)(disch:=first|exact Yo rfl|omega|(simp only[go_sem]<;>omega)|fail)only[go_sem]) ?_
   try delta mvA
   try delta opA
   try delta tA
   simp -implicitDefEqProofs(maxSteps:=9^7)(disch:=first|exact Yo rfl|omega|(simp only[go_sem]<;>omega)|fail)only[go_sem]
   repeat(first|apply Ya|apply Yb|apply Yc|((first|apply Yd|apply Ye|apply Yf|apply Yg|apply Yh);simp -implicitDefEqProofs(maxSteps:=9^7)(disch:=first|exact Yo rfl|omega|(simp only[go_sem]<;>omega)|fail)only[go_sem,w1,h0,h1,show ¬ (2 : Int) < t.pairs.length by omega]<;>try with_reducible rfl)|apply Yi|apply Yj|apply Yk|apply Yl|apply Ym|apply Yn)
   rw [if_neg fun h=>h1 h.1.1]
end Go.Abs.Beam
set_option linter.all false
namespace Go.Abs.Beam
set_option maxRecDepth 10000
set_option maxHeartbeats 1000000
def numP : List PairT → Int
 | [] => 1
 | p :: l => p.dr * numP l
def denP : List PairT → Int
 | [] => 1
 | p :: l => p.dn * denP l
theorem numP_snoc (l : List PairT) (p : PairT) : numP (l ++ [p]) = numP l * p.dr:=by
 induction l with
 | nil => simp [numP]
 | cons q l ih => simp only [List.cons_append,numP,ih]; rw [Int.mul_assoc]
theorem denP_snoc (l : List PairT) (p : PairT) : denP (l ++ [p]) = denP l * p.dn:=by
 induction l with
 | nil => simp [denP]
 | cons q l ih => simp only [List.cons_append,denP,ih]; rw [Int.mul_assoc]
theorem prod_bound {a b A B : Int} (h1 : 1≤a) (h2 : a≤A) (h3 : 1≤b) (h4 : b≤B) : 1≤a * b∧a * b≤A * B:=by
 refine ⟨?_,Int.mul_le_mul h2 h4 (by omega) (by omega)⟩
 have:=Int.mul_le_mul h1 h3 (by omega) (by omega : (0 : Int)≤a)
 simpa using this
theorem numP_bound : ∀ {l : List PairT},(∀ p ∈ l,p.Ok) → l.length≤2 → (1≤numP l∧numP l≤10000)∧(1≤denP l∧denP l≤10000)
 | [],_,_ => by simp [numP,denP]
 | [p],h,_ => by
  have:=h p (by simp)
  simp only [numP,denP,Int.mul_one];omega
 | [p,q],h,_ => by
  have hp:=h p (by simp)
  have hq:=h q (by simp)
  have h1:=prod_bound hp.1.1 hp.1.2 hq.1.1 hq.1.2;have h2:=prod_bound hp.2.1 hp.2.2 hq.2.1 hq.2.2;simp only [numP,denP,Int.mul_one];omega
 | _ :: _ :: _ :: _,_,h => by simp at h
def numT (t : TakeA) : Int:=t.round * t.step * numP t.pairs
def denT (t : TakeA) : Int:=t.rat * denP t.pairs
def numI (t : TakeA) (i : Nat) : Int:=t.round * t.step * numP (t.pairs.take i)
def denI (t : TakeA) (i : Nat) : Int:=t.rat * denP (t.pairs.take i)
theorem numI_succ {t : TakeA} {i : Nat} (h : i < t.pairs.length) : numI t (i + 1) = numI t i * t.pairs[i].dr:=by
 unfold numI; rw [List.take_succ_eq_append_getElem h,numP_snoc,← Int.mul_assoc]
theorem denI_succ {t : TakeA} {i : Nat} (h : i < t.pairs.length) : denI t (i + 1) = denI t i * t.pairs[i].dn:=by
 unfold denI; rw [List.take_succ_eq_append_getElem h,denP_snoc,← Int.mul_assoc]
theorem numI_end (t : TakeA) : numI t t.pairs.length = numT t:=by simp [numI,numT]
theorem denI_end (t : TakeA) : denI t t.pairs.length = denT t:=by simp [denI,denT]
theorem numI_zero (t : TakeA) : numI t 0 = t.round * t.step:=by simp [numI,numP]
theorem denI_zero (t : TakeA) : denI t 0 = t.rat:=by simp [denI,denP]
theorem numI_bound {t : TakeA} (h : checkT t = 0) (i : Nat) : (1≤numI t i∧numI t i≤25000000000)∧(1≤denI t i∧denI t i≤1000000):=by
 obtain ⟨hl,⟨h1,h2,h3⟩,hp⟩:=checkT_zero h;have hb:=numP_bound (l:=t.pairs.take i) (fun p hm => hp p (List.mem_of_mem_take hm)) (by simp; omega)
 have g1:=prod_bound h3.1 h3.2 h2.1 h2.2;have g2:=prod_bound g1.1 g1.2 hb.1.1 hb.1.2;have g3:=prod_bound h1.1 h1.2 hb.2.1 hb.2.2;unfold numI denI;omega
theorem numT_bound {t : TakeA} (h : checkT t = 0) : (1≤numT t∧numT t≤25000000000)∧(1≤denT t∧denT t≤1000000):=by
 rw [← numI_end,← denI_end]; exact numI_bound h _
def gT (t : TakeA) : Nat:=Nat.gcd (numT t).toNat (denT t).toNat
def nT (t : TakeA) : Int:=((numT t).toNat / gT t : Nat)
def dT (t : TakeA) : Int:=((denT t).toNat / gT t : Nat)
def takeV (t : TakeA) : AV:=.agg [iv (nT t),iv (dT t)]
theorem gT_pos {t : TakeA} (h : checkT t = 0) : 0 < gT t:=Nat.gcd_pos_of_pos_left _ (by have:=(numT_bound h).1.1; omega)
theorem nT_bound {t : TakeA} (h : checkT t = 0) : (1≤nT t∧nT t≤25000000000)∧(1≤dT t∧dT t≤1000000):=by
 have hb:=numT_bound h;have hg:=gT_pos h;have h1 : gT t≤(numT t).toNat:=Nat.gcd_le_left _ (by omega)
 have h2 : gT t≤(denT t).toNat:=Nat.gcd_le_right _ (by omega)
 have h3 : 0 < (numT t).toNat / gT t:=Nat.div_pos h1 hg;have h4 : 0 < (denT t).toNat / gT t:=Nat.div_pos h2 hg;have h5 : (numT t).toNat / gT t≤(numT t).toNat:=Nat.div_le_self _ _;have h6 : (denT t).toNat / gT t≤(denT t).toNat:=Nat.div_le_self _ _;unfold nT dT;omega
theorem tmod_nat (a b : Nat) : Int.tmod (a : Int) (b : Int) = ((a % b : Nat) : Int):=rfl
theorem tdiv_nat (a b : Nat) : Int.tdiv (a : Int) (b : Int) = ((a / b : Nat) : Int):=rfl
theorem lowest_ok (p q : Nat) (hp : p < 4611686018427387904) (hq : q < 4611686018427387904) (h0 : 0 < p) :
  lim F 74 [.agg [iv p,iv q]] = some (.agg [iv ((p / Nat.gcd p q : Nat) : Int),iv ((q / Nat.gcd p q : Nat) : Int)],[]):=by
 have hg : 0 < Nat.gcd p q:=Nat.gcd_pos_of_pos_left _ h0;have hgn : (Nat.gcd p q : Int) ≠ 0:=by omega
 refine Yr (fn:=a74) (k:=1) (res:=[.cell 2 2 true]) rfl rfl rfl (by simp -implicitDefEqProofs(maxSteps:=9^7)(disch:=first|exact Yo rfl|omega|(simp only[go_sem]<;>omega)|fail)only[go_sem]) ?_
 try delta mvA
 try delta opA
 try delta tA
 simp -implicitDefEqProofs(maxSteps:=9^7)(disch:=first|exact Yo rfl|omega|(simp only[go_sem]<;>omega)|fail)only[go_sem]
 repeat(first|apply Ya|apply Yb|apply Yc|((first|apply Yd|apply Ye|apply Yf|apply Yg|apply Yh);simp -implicitDefEqProofs(maxSteps:=9^7)(disch:=first|exact Yo rfl|omega|(simp only[go_sem]<;>omega)|fail)only[go_sem]<;>try with_reducible rfl)|apply Yi|apply Yj|apply Yk|apply Yl|apply Ym|apply Yn)
 apply Wp.loopM (fun k fr => ∃ a b : Nat,fr = ⟨[(1,.ptr 64 0 0),(2,.ptr 128 0 0),(3,iv a),(4,iv b)],[(64,.box [iv p,iv q]),(128,.box [iv 0,iv 0])],[],10000000⟩ ∧
  k = b∧Nat.gcd a b = Nat.gcd p q∧a < 4611686018427387904∧b < 4611686018427387904)
 ·simp -implicitDefEqProofs(maxSteps:=9^7)(disch:=first|exact Yo rfl|omega|(simp only[go_sem]<;>omega)|fail)only[go_sem,norm_eq,Ok.some]
  exact ⟨q,p,q,rfl,rfl,rfl,hp,hq⟩
 rintro k fr ⟨a,b,rfl,rfl,hgc,ha,hb⟩;by_cases h : 0 < k
 ·have hn : (k : Int) ≠ 0:=by omega
  have hm : a % k < k:=Nat.mod_lt _ h;repeat(first|apply Ya|apply Yb|apply Yc|((first|apply Yd|apply Ye|apply Yf|apply Yg|apply Yh);simp -implicitDefEqProofs(maxSteps:=9^7)(disch:=first|exact Yo rfl|omega|(simp only[go_sem]<;>omega)|fail)only[go_sem,h,show (0 : Int) < k by omega,hn,tmod_nat]<;>try with_reducible rfl)|apply Yi|apply Yj|apply Yk|apply Yl|apply Ym|apply Yn)
  apply Ys (Q:=fun _ _ => False)
  ·simp -implicitDefEqProofs(maxSteps:=9^7)(disch:=first|exact Yo rfl|omega|(simp only[go_sem]<;>omega)|fail)only[go_sem,norm_eq,Ok.some]; with_reducible rfl
  refine ⟨a % k,hm,k,a % k,rfl,rfl,?_,hb,by omega⟩
  rw [← hgc,Nat.gcd_comm k,← Nat.gcd_rec,Nat.gcd_comm]
 ·obtain rfl : k = 0:=by omega
  rw [Nat.gcd_zero_right] at hgc;subst hgc;have h1 : p / Nat.gcd p q≤p:=Nat.div_le_self _ _;have h2 : q / Nat.gcd p q≤q:=Nat.div_le_self _ _;have d1:=tdiv_nat p (Nat.gcd p q);have d2:=tdiv_nat q (Nat.gcd p q);generalize p / Nat.gcd p q = x at h1 d1 ⊢;generalize q / Nat.gcd p q = y at h2 d2 ⊢;repeat(first|apply Ya|apply Yb|apply Yc|((first|apply Yd|apply Ye|apply Yf|apply Yg|apply Yh);simp -implicitDefEqProofs(maxSteps:=9^7)(disch:=first|exact Yo rfl|omega|(simp only[go_sem]<;>omega)|fail)only[go_sem,hgn,d1,d2]<;>try with_reducible rfl)|apply Yi|apply Yj|apply Yk|apply Yl|apply Ym|apply Yn)
theorem taken_ok (t : TakeA) (h : checkT t = 0) : lim F 35 [t.av] = some (takeV t,[]):=by
 obtain ⟨hl,⟨h1,h2,h3⟩,hp⟩:=checkT_zero h;have hb:=numT_bound h;have hlow:=lowest_ok (numT t).toNat (denT t).toNat (by omega) (by omega) (by omega)
 have e1 : ((numT t).toNat : Int) = numT t:=by omega
 have e2 : ((denT t).toNat : Int) = denT t:=by omega
 rw [e1,e2] at hlow;have b0:=numI_bound h 0;rw [numI_zero,denI_zero] at b0;unfold TakeA.av takeV;refine Yr (fn:=a35) (k:=1) (res:=[.cell 2 2 true]) rfl rfl rfl (by simp -implicitDefEqProofs(maxSteps:=9^7)(disch:=first|exact Yo rfl|omega|(simp only[go_sem]<;>omega)|fail)only[go_sem]) ?_
 try delta mvA
 try delta opA
 try delta tA
 simp -implicitDefEqProofs(maxSteps:=9^7)(disch:=first|exact Yo rfl|omega|(simp only[go_sem]<;>omega)|fail)only[go_sem]
 repeat(first|apply Ya|apply Yb|apply Yc|((first|apply Yd|apply Ye|apply Yf|apply Yg|apply Yh);simp -implicitDefEqProofs(maxSteps:=9^7)(disch:=first|exact Yo rfl|omega|(simp only[go_sem]<;>omega)|fail)only[go_sem]<;>try with_reducible rfl)|apply Yi|apply Yj|apply Yk|apply Yl|apply Ym|apply Yn)
 apply Yt t.pairs.length (fun i=>⟨[(2,.ptr 128 0 0),(3,.ptr 192 0 0),(16,.list 2 (t.pairs.map PairT.av)),(17,iv t.pairs.length),(18,iv i)],[(128,.box [iv 0,iv 0]),(192,.box [iv (numI t i),iv (denI t i)])],[],10000000⟩) (fun _=>True)
 ·simp -implicitDefEqProofs(maxSteps:=9^7)(disch:=first|exact Yo rfl|omega|(simp only[go_sem]<;>omega)|fail)only[go_sem,norm_eq,Ok.some]
  rw [numI_zero,denI_zero];rfl
 ·trivial
 intro i hi _;by_cases hlt : i < t.pairs.length
 ·have bi:=numI_bound h i
  have bj:=numI_bound h (i + 1);have s1:=numI_succ hlt;have s2:=denI_succ hlt;repeat(first|apply Ya|apply Yb|apply Yc|((first|apply Yd|apply Ye|apply Yf|apply Yg|apply Yh);simp -implicitDefEqProofs(maxSteps:=9^7)(disch:=first|exact Yo rfl|omega|(simp only[go_sem]<;>omega)|fail)only[go_sem,hlt,Int.ofNat_lt,List.getElem?_map,List.getElem?_eq_getElem hlt,Option.map_some,PairT.av.eq_1,← s1,← s2]<;>try with_reducible rfl)|apply Yi|apply Yj|apply Yk|apply Yl|apply Ym|apply Yn)
  apply Ys
  ·simp -implicitDefEqProofs(maxSteps:=9^7)(disch:=first|exact Yo rfl|omega|(simp only[go_sem]<;>omega)|fail)only[go_sem,norm_eq,Ok.some]; with_reducible rfl
  exact ⟨hlt,by simp,trivial⟩
 ·obtain rfl : i = t.pairs.length:=by omega
  rw [numI_end,denI_end];repeat(first|apply Ya|apply Yb|apply Yc|((first|apply Yd|apply Ye|apply Yf|apply Yg|apply Yh);simp -implicitDefEqProofs(maxSteps:=9^7)(disch:=first|exact Yo rfl|omega|(simp only[go_sem]<;>omega)|fail)only[go_sem,Int.lt_irrefl,hlow]<;>try with_reducible rfl)|apply Yi|apply Yj|apply Yk|apply Yl|apply Ym|apply Yn)
  rfl
theorem Take_ok (t : TakeA) : lim F 47 [t.av] = some (.tuple [if checkT t = 0 then takeV t else .agg [iv 0,iv 0],iv (checkT t)],[]):=by
 have hc:=Check_ok t;by_cases h : checkT t = 0
 ·have ht:=taken_ok t h
  rw [if_pos h];rw [h] at hc;rw [h];unfold TakeA.av at hc ht ⊢;unfold takeV at ht ⊢;refine Yr (fn:=a47) (k:=1) (res:=[.cell 2 2 true,.tmp 3]) rfl rfl rfl (by simp -implicitDefEqProofs(maxSteps:=9^7)(disch:=first|exact Yo rfl|omega|(simp only[go_sem]<;>omega)|fail)only[go_sem]) ?_
  try delta mvA
  try delta opA
  try delta tA
  simp -implicitDefEqProofs(maxSteps:=9^7)(disch:=first|exact Yo rfl|omega|(simp only[go_sem]<;>omega)|fail)only[go_sem]
  repeat(first|apply Ya|apply Yb|apply Yc|((first|apply Yd|apply Ye|apply Yf|apply Yg|apply Yh);simp -implicitDefEqProofs(maxSteps:=9^7)(disch:=first|exact Yo rfl|omega|(simp only[go_sem]<;>omega)|fail)only[go_sem,hc,ht]<;>try with_reducible rfl)|apply Yi|apply Yj|apply Yk|apply Yl|apply Ym|apply Yn)
 ·rw [if_neg h]
  generalize checkT t = c at hc h;unfold TakeA.av at hc ⊢;refine Yr (fn:=a47) (k:=1) (res:=[.cell 2 2 true,.tmp 3]) rfl rfl rfl (by simp -implicitDefEqProofs(maxSteps:=9^7)(disch:=first|exact Yo rfl|omega|(simp only[go_sem]<;>omega)|fail)only[go_sem]) ?_
  try delta mvA
  try delta opA
  try delta tA
  simp -implicitDefEqProofs(maxSteps:=9^7)(disch:=first|exact Yo rfl|omega|(simp only[go_sem]<;>omega)|fail)only[go_sem]
  repeat(first|apply Ya|apply Yb|apply Yc|((first|apply Yd|apply Ye|apply Yf|apply Yg|apply Yh);simp -implicitDefEqProofs(maxSteps:=9^7)(disch:=first|exact Yo rfl|omega|(simp only[go_sem]<;>omega)|fail)only[go_sem,hc,h]<;>try with_reducible rfl)|apply Yi|apply Yj|apply Yk|apply Yl|apply Ym|apply Yn)
def picksOf (t : TakeA) (n : Int) : Int:=n * dT t / nT t
theorem picks_bound {t : TakeA} {n : Int} (h : checkT t = 0) (hn : 0≤n∧n≤10000000000) : (0≤n * dT t∧n * dT t≤10000000000000000)∧0≤picksOf t n∧picksOf t n≤10000000000000000:=by
 have nb:=nT_bound h;have h1 : 0≤n * dT t:=Int.mul_nonneg hn.1 (by omega)
 have h2 : n * dT t≤10000000000 * 1000000:=Int.mul_le_mul hn.2 nb.2.2 (by omega) (by omega)
 have h3 : 0≤picksOf t n:=Int.ediv_nonneg h1 (by omega)
 have h4 : picksOf t n≤n * dT t:=Int.ediv_le_self _ h1;exact ⟨⟨h1,by omega⟩,h3,by omega⟩
theorem picks_tdiv {t : TakeA} {n : Int} (h : checkT t = 0) (hn : 0≤n∧n≤10000000000) : Int.tdiv (n * dT t) (nT t) = picksOf t n:=Int.tdiv_eq_ediv_of_nonneg (picks_bound h hn).1.1
def picksE (t : TakeA) (n : Int) : Int:=if checkT t = 0 then if 0≤n∧n≤10000000000 then 0 else 3 else checkT t
theorem Picks_ok (t : TakeA) (n : Int) : lim F 9 [t.av,iv n] = some (.tuple [iv (if picksE t n = 0 then picksOf t n else 0),iv (picksE t n)],[]):=by
 have hc:=Check_ok t;unfold picksE;by_cases h : checkT t = 0
 ·have ht:=taken_ok t h
  have hl:=isLength_ok n;have nb:=nT_bound h;rw [if_pos h];rw [h] at hc;by_cases hn : 0≤n∧n≤10000000000
  ·have hb:=picks_bound h hn
   have hd:=picks_tdiv h hn;rw [if_pos hn,if_pos rfl];unfold TakeA.av at hc ht ⊢;unfold takeV at ht;refine Yr (fn:=a9) (k:=2) (res:=[.tmp 4,.tmp 5]) rfl rfl rfl (by simp -implicitDefEqProofs(maxSteps:=9^7)(disch:=first|exact Yo rfl|omega|(simp only[go_sem]<;>omega)|fail)only[go_sem]) ?_
   try delta mvA
   try delta opA
   try delta tA
   simp -implicitDefEqProofs(maxSteps:=9^7)(disch:=first|exact Yo rfl|omega|(simp only[go_sem]<;>omega)|fail)only[go_sem]
   repeat(first|apply Ya|apply Yb|apply Yc|((first|apply Yd|apply Ye|apply Yf|apply Yg|apply Yh);simp -implicitDefEqProofs(maxSteps:=9^7)(disch:=first|exact Yo rfl|omega|(simp only[go_sem]<;>omega)|fail)only[go_sem,hc,ht,hl,hn,hd,show nT t ≠ 0 by omega]<;>try with_reducible rfl)|apply Yi|apply Yj|apply Yk|apply Yl|apply Ym|apply Yn)
  ·rw [if_neg hn,if_neg (by omega)]
   unfold TakeA.av at hc ⊢;refine Yr (fn:=a9) (k:=2) (res:=[.tmp 4,.tmp 5]) rfl rfl rfl (by simp -implicitDefEqProofs(maxSteps:=9^7)(disch:=first|exact Yo rfl|omega|(simp only[go_sem]<;>omega)|fail)only[go_sem]) ?_
   try delta mvA
   try delta opA
   try delta tA
   simp -implicitDefEqProofs(maxSteps:=9^7)(disch:=first|exact Yo rfl|omega|(simp only[go_sem]<;>omega)|fail)only[go_sem]
   repeat(first|apply Ya|apply Yb|apply Yc|((first|apply Yd|apply Ye|apply Yf|apply Yg|apply Yh);simp -implicitDefEqProofs(maxSteps:=9^7)(disch:=first|exact Yo rfl|omega|(simp only[go_sem]<;>omega)|fail)only[go_sem,hc,hl,hn]<;>try with_reducible rfl)|apply Yi|apply Yj|apply Yk|apply Yl|apply Ym|apply Yn)
 ·rw [if_neg h,if_neg h]
  generalize checkT t = c at hc h;unfold TakeA.av at hc ⊢;refine Yr (fn:=a9) (k:=2) (res:=[.tmp 4,.tmp 5]) rfl rfl rfl (by simp -implicitDefEqProofs(maxSteps:=9^7)(disch:=first|exact Yo rfl|omega|(simp only[go_sem]<;>omega)|fail)only[go_sem]) ?_
  try delta mvA
  try delta opA
  try delta tA
  simp -implicitDefEqProofs(maxSteps:=9^7)(disch:=first|exact Yo rfl|omega|(simp only[go_sem]<;>omega)|fail)only[go_sem]
  repeat(first|apply Ya|apply Yb|apply Yc|((first|apply Yd|apply Ye|apply Yf|apply Yg|apply Yh);simp -implicitDefEqProofs(maxSteps:=9^7)(disch:=first|exact Yo rfl|omega|(simp only[go_sem]<;>omega)|fail)only[go_sem,hc,h]<;>try with_reducible rfl)|apply Yi|apply Yj|apply Yk|apply Yl|apply Ym|apply Yn)
end Go.Abs.Beam
set_option linter.all false
namespace Go.Abs.Beam
set_option maxRecDepth 10000
set_option maxHeartbeats 1000000
def firstP (p : Nat → Bool) (N : Nat) : Nat:=(List.range N).findIdx p
theorem firstP_le (p : Nat → Bool) (N : Nat) : firstP p N≤N:=by
 have:=List.findIdx_le_length (p:=p) (xs:=List.range N);simpa [firstP] using this
theorem firstP_no {p : Nat → Bool} {N i : Nat} (h : i < firstP p N) : p i = false:=by
 have hl:=firstP_le p N;have:=List.not_of_lt_findIdx (p:=p) (xs:=List.range N) (i:=i) h;simpa using this
theorem firstP_yes {p : Nat → Bool} {N : Nat} (h : firstP p N < N) : p (firstP p N) = true:=by
 have:=List.findIdx_getElem (p:=p) (xs:=List.range N) (w:=by simpa [firstP] using h)
 simpa [firstP] using this
theorem firstP_eq {p : Nat → Bool} {N a : Nat} (ha : a≤N) (h1 : ∀ i,i < a → p i = false) (h2 : a < N → p a = true) : firstP p N = a:=by
 have hl:=firstP_le p N;rcases Nat.lt_trichotomy (firstP p N) a with h | h | h
 ·have:=firstP_yes (p:=p) (N:=N) (by omega)
  rw [h1 _ h] at this;cases this
 ·exact h
 ·have:=firstP_no h
  rw [h2 (by omega)] at this
  cases this
theorem wrap_u64 {n : Int} (h1 : 0≤n) (h2 : n < 18446744073709551616) : IntKind.wrap .u64 n = n:=by
 simp [IntKind.wrap,IntKind.signed,IntKind.bits]; omega
theorem half_ok (a b : Nat) (h : a + b < 9000000000000000000) : IntKind.wrap .i64 (Int.fdiv (IntKind.wrap .u64 ((a : Int) + b)) (2 ^ min 1 (IntKind.bits .u64))) = (((a + b) / 2 : Nat) : Int):=by
 rw [wrap_u64 (by omega) (by omega),show min 1 (IntKind.bits .u64) = 1 from rfl,Int.fdiv_eq_ediv_of_nonneg _ (by omega),wrap_id]
 all_goals omega
theorem search2 (p : Nat → Bool) (N : Nat) (f : Nat) (x y : AV) (hN : N≤10000000001)
  (mono : ∀ i j,i≤j → j < N → p i = true → p j = true) (hp : ∀ i : Nat,i < N → lim F f [iv i,.iptr x 0,.iptr y 0] = some (.bool (p i),[])) :
  lim F 42 [iv N,.func f [.iptr x 0,.iptr y 0]] = some (iv (firstP p N),[]):=by
 refine Yr (fn:=a42) (k:=2) (res:=[.tmp 4]) rfl rfl rfl (by simp -implicitDefEqProofs(maxSteps:=9^7)(disch:=first|exact Yo rfl|omega|(simp only[go_sem]<;>omega)|fail)only[go_sem]) ?_
 try delta mvA
 try delta opA
 try delta tA
 simp -implicitDefEqProofs(maxSteps:=9^7)(disch:=first|exact Yo rfl|omega|(simp only[go_sem]<;>omega)|fail)only[go_sem]
 repeat(first|apply Ya|apply Yb|apply Yc|((first|apply Yd|apply Ye|apply Yf|apply Yg|apply Yh);simp -implicitDefEqProofs(maxSteps:=9^7)(disch:=first|exact Yo rfl|omega|(simp only[go_sem]<;>omega)|fail)only[go_sem]<;>try with_reducible rfl)|apply Yi|apply Yj|apply Yk|apply Yl|apply Ym|apply Yn)
 apply Wp.loopM (fun k fr => ∃ a b : Nat,fr = ⟨[(1,.func f [.iptr x 0,.iptr y 0]),(5,iv a),(6,iv b)],[],[],10000000⟩∧k = b - a∧a≤b∧b≤N∧(∀ i,i < a → p i = false)∧(∀ i,b≤i → i < N → p i = true))
 ·simp -implicitDefEqProofs(maxSteps:=9^7)(disch:=first|exact Yo rfl|omega|(simp only[go_sem]<;>omega)|fail)only[go_sem,norm_eq,Ok.some]
  exact ⟨_,0,N,rfl,rfl,by omega,by omega,fun i h => by omega,fun i h1 h2 => by omega⟩
 rintro k fr ⟨a,b,rfl,rfl,hab,hbN,h1,h2⟩;by_cases h : a < b
 ·have hc:=hp ((a + b) / 2) (by omega)
  have hf:=half_ok a b (by omega)
  generalize hm : (a + b) / 2 = m at hc hf;cases hb : p m with
  | true =>
   rw [hb] at hc;repeat(first|apply Ya|apply Yb|apply Yc|((first|apply Yd|apply Ye|apply Yf|apply Yg|apply Yh);simp -implicitDefEqProofs(maxSteps:=9^7)(disch:=first|exact Yo rfl|omega|(simp only[go_sem]<;>omega)|fail)only[go_sem,h,Int.ofNat_lt,hf,hc]<;>try with_reducible rfl)|apply Yi|apply Yj|apply Yk|apply Yl|apply Ym|apply Yn)
   apply Ys (Q:=fun _ _ => False)
   ·simp -implicitDefEqProofs(maxSteps:=9^7)(disch:=first|exact Yo rfl|omega|(simp only[go_sem]<;>omega)|fail)only[go_sem,norm_eq,Ok.some]; with_reducible rfl
   exact ⟨m - a,by omega,a,m,rfl,rfl,by omega,by omega,h1,fun i g1 g2 => mono m i g1 g2 hb⟩
  | false =>
   rw [hb] at hc;repeat(first|apply Ya|apply Yb|apply Yc|((first|apply Yd|apply Ye|apply Yf|apply Yg|apply Yh);simp -implicitDefEqProofs(maxSteps:=9^7)(disch:=first|exact Yo rfl|omega|(simp only[go_sem]<;>omega)|fail)only[go_sem,h,Int.ofNat_lt,hf,hc]<;>try with_reducible rfl)|apply Yi|apply Yj|apply Yk|apply Yl|apply Ym|apply Yn)
   apply Ys (Q:=fun _ _ => False)
   ·simp -implicitDefEqProofs(maxSteps:=9^7)(disch:=first|exact Yo rfl|omega|(simp only[go_sem]<;>omega)|fail)only[go_sem,norm_eq,Ok.some]; with_reducible rfl
   refine ⟨b - (m + 1),by omega,m + 1,b,by simp,rfl,by omega,by omega,fun i hi => ?_,h2⟩
   by_cases e : i = m
   ·subst e; exact hb
   ·cases hpi : p i with
    | false => rfl
    | true => rw [mono i m (by omega) (by omega) hpi] at hb; cases hb
 ·obtain rfl : a = b:=by omega
  repeat(first|apply Ya|apply Yb|apply Yc|((first|apply Yd|apply Ye|apply Yf|apply Yg|apply Yh);simp -implicitDefEqProofs(maxSteps:=9^7)(disch:=first|exact Yo rfl|omega|(simp only[go_sem]<;>omega)|fail)only[go_sem,Int.lt_irrefl]<;>try with_reducible rfl)|apply Yi|apply Yj|apply Yk|apply Yl|apply Ym|apply Yn)
  rw [firstP_eq (a:=a) (by omega) h1 fun hl=>h2 a (by omega) hl]
theorem search3 (p : Nat → Bool) (N : Nat) (f : Nat) (x y z : AV) (hN : N≤10000000001)
  (mono : ∀ i j,i≤j → j < N → p i = true → p j = true) (hp : ∀ i : Nat,i < N → lim F f [iv i,.iptr x 0,.iptr y 0,.iptr z 0] = some (.bool (p i),[])) :
  lim F 42 [iv N,.func f [.iptr x 0,.iptr y 0,.iptr z 0]] = some (iv (firstP p N),[]):=by
 refine Yr (fn:=a42) (k:=2) (res:=[.tmp 4]) rfl rfl rfl (by simp -implicitDefEqProofs(maxSteps:=9^7)(disch:=first|exact Yo rfl|omega|(simp only[go_sem]<;>omega)|fail)only[go_sem]) ?_
 try delta mvA
 try delta opA
 try delta tA
 simp -implicitDefEqProofs(maxSteps:=9^7)(disch:=first|exact Yo rfl|omega|(simp only[go_sem]<;>omega)|fail)only[go_sem]
 repeat(first|apply Ya|apply Yb|apply Yc|((first|apply Yd|apply Ye|apply Yf|apply Yg|apply Yh);simp -implicitDefEqProofs(maxSteps:=9^7)(disch:=first|exact Yo rfl|omega|(simp only[go_sem]<;>omega)|fail)only[go_sem]<;>try with_reducible rfl)|apply Yi|apply Yj|apply Yk|apply Yl|apply Ym|apply Yn)
 apply Wp.loopM (fun k fr => ∃ a b : Nat,fr = ⟨[(1,.func f [.iptr x 0,.iptr y 0,.iptr z 0]),(5,iv a),(6,iv b)],[],[],10000000⟩∧k = b - a∧a≤b∧b≤N∧(∀ i,i < a → p i = false)∧(∀ i,b≤i → i < N → p i = true))
 ·simp -implicitDefEqProofs(maxSteps:=9^7)(disch:=first|exact Yo rfl|omega|(simp only[go_sem]<;>omega)|fail)only[go_sem,norm_eq,Ok.some]
  exact ⟨_,0,N,rfl,rfl,by omega,by omega,fun i h => by omega,fun i h1 h2 => by omega⟩
 rintro k fr ⟨a,b,rfl,rfl,hab,hbN,h1,h2⟩;by_cases h : a < b
 ·have hc:=hp ((a + b) / 2) (by omega)
  have hf:=half_ok a b (by omega)
  generalize hm : (a + b) / 2 = m at hc hf;cases hb : p m with
  | true =>
   rw [hb] at hc;repeat(first|apply Ya|apply Yb|apply Yc|((first|apply Yd|apply Ye|apply Yf|apply Yg|apply Yh);simp -implicitDefEqProofs(maxSteps:=9^7)(disch:=first|exact Yo rfl|omega|(simp only[go_sem]<;>omega)|fail)only[go_sem,h,Int.ofNat_lt,hf,hc]<;>try with_reducible rfl)|apply Yi|apply Yj|apply Yk|apply Yl|apply Ym|apply Yn)
   apply Ys (Q:=fun _ _ => False)
   ·simp -implicitDefEqProofs(maxSteps:=9^7)(disch:=first|exact Yo rfl|omega|(simp only[go_sem]<;>omega)|fail)only[go_sem,norm_eq,Ok.some]; with_reducible rfl
   exact ⟨m - a,by omega,a,m,rfl,rfl,by omega,by omega,h1,fun i g1 g2 => mono m i g1 g2 hb⟩
  | false =>
   rw [hb] at hc;repeat(first|apply Ya|apply Yb|apply Yc|((first|apply Yd|apply Ye|apply Yf|apply Yg|apply Yh);simp -implicitDefEqProofs(maxSteps:=9^7)(disch:=first|exact Yo rfl|omega|(simp only[go_sem]<;>omega)|fail)only[go_sem,h,Int.ofNat_lt,hf,hc]<;>try with_reducible rfl)|apply Yi|apply Yj|apply Yk|apply Yl|apply Ym|apply Yn)
   apply Ys (Q:=fun _ _ => False)
   ·simp -implicitDefEqProofs(maxSteps:=9^7)(disch:=first|exact Yo rfl|omega|(simp only[go_sem]<;>omega)|fail)only[go_sem,norm_eq,Ok.some]; with_reducible rfl
   refine ⟨b - (m + 1),by omega,m + 1,b,by simp,rfl,by omega,by omega,fun i hi => ?_,h2⟩
   by_cases e : i = m
   ·subst e; exact hb
   ·cases hpi : p i with
    | false => rfl
    | true => rw [mono i m (by omega) (by omega) hpi] at hb; cases hb
 ·obtain rfl : a = b:=by omega
  repeat(first|apply Ya|apply Yb|apply Yc|((first|apply Yd|apply Ye|apply Yf|apply Yg|apply Yh);simp -implicitDefEqProofs(maxSteps:=9^7)(disch:=first|exact Yo rfl|omega|(simp only[go_sem]<;>omega)|fail)only[go_sem,Int.lt_irrefl]<;>try with_reducible rfl)|apply Yi|apply Yj|apply Yk|apply Yl|apply Ym|apply Yn)
  rw [firstP_eq (a:=a) (by omega) h1 fun hl=>h2 a (by omega) hl]
end Go.Abs.Beam
set_option linter.all false
namespace Go.Abs.Beam
set_option maxRecDepth 10000
set_option maxHeartbeats 1000000
abbrev SpanOk (a b least most : Int) : Prop:=least≤a∧a≤b∧b≤most
theorem isSpan_ok (a b least most : Int) : lim F 82 [.agg [iv a,iv b],iv least,iv most] = some (.bool (decide (SpanOk a b least most)),[]):=by
 have h:=within_ok least most [a,b] (by simp)
 simp only [List.map_cons,List.map_nil,List.all_cons,List.all_nil,Bool.and_true] at h;by_cases h1 : least≤a∧a≤most
 ·by_cases h2 : least≤b∧b≤most
  ·by_cases h3 : a≤b
   ·refine Yr (fn:=a82) (k:=3) (res:=[.tmp 6]) rfl rfl rfl (by simp -implicitDefEqProofs(maxSteps:=9^7)(disch:=first|exact Yo rfl|omega|(simp only[go_sem]<;>omega)|fail)only[go_sem]) ?_
    try delta mvA
    try delta opA
    try delta tA
    simp -implicitDefEqProofs(maxSteps:=9^7)(disch:=first|exact Yo rfl|omega|(simp only[go_sem]<;>omega)|fail)only[go_sem]
    repeat(first|apply Ya|apply Yb|apply Yc|((first|apply Yd|apply Ye|apply Yf|apply Yg|apply Yh);simp -implicitDefEqProofs(maxSteps:=9^7)(disch:=first|exact Yo rfl|omega|(simp only[go_sem]<;>omega)|fail)only[go_sem,h,h1,h2,h3]<;>try with_reducible rfl)|apply Yi|apply Yj|apply Yk|apply Yl|apply Ym|apply Yn)
    rw [decide_eq_true];omega
   ·refine Yr (fn:=a82) (k:=3) (res:=[.tmp 6]) rfl rfl rfl (by simp -implicitDefEqProofs(maxSteps:=9^7)(disch:=first|exact Yo rfl|omega|(simp only[go_sem]<;>omega)|fail)only[go_sem]) ?_
    try delta mvA
    try delta opA
    try delta tA
    simp -implicitDefEqProofs(maxSteps:=9^7)(disch:=first|exact Yo rfl|omega|(simp only[go_sem]<;>omega)|fail)only[go_sem]
    repeat(first|apply Ya|apply Yb|apply Yc|((first|apply Yd|apply Ye|apply Yf|apply Yg|apply Yh);simp -implicitDefEqProofs(maxSteps:=9^7)(disch:=first|exact Yo rfl|omega|(simp only[go_sem]<;>omega)|fail)only[go_sem,h,h1,h2,h3]<;>try with_reducible rfl)|apply Yi|apply Yj|apply Yk|apply Yl|apply Ym|apply Yn)
    rw [decide_eq_false];omega
  ·rw [decide_eq_true h1,decide_eq_false h2] at h
   rw [Bool.and_false] at h;refine Yr (fn:=a82) (k:=3) (res:=[.tmp 6]) rfl rfl rfl (by simp -implicitDefEqProofs(maxSteps:=9^7)(disch:=first|exact Yo rfl|omega|(simp only[go_sem]<;>omega)|fail)only[go_sem]) ?_
   try delta mvA
   try delta opA
   try delta tA
   simp -implicitDefEqProofs(maxSteps:=9^7)(disch:=first|exact Yo rfl|omega|(simp only[go_sem]<;>omega)|fail)only[go_sem]
   repeat(first|apply Ya|apply Yb|apply Yc|((first|apply Yd|apply Ye|apply Yf|apply Yg|apply Yh);simp -implicitDefEqProofs(maxSteps:=9^7)(disch:=first|exact Yo rfl|omega|(simp only[go_sem]<;>omega)|fail)only[go_sem,h]<;>try with_reducible rfl)|apply Yi|apply Yj|apply Yk|apply Yl|apply Ym|apply Yn)
   rw [decide_eq_false];omega
 ·rw [decide_eq_false h1,Bool.false_and] at h
  refine Yr (fn:=a82) (k:=3) (res:=[.tmp 6]) rfl rfl rfl (by simp -implicitDefEqProofs(maxSteps:=9^7)(disch:=first|exact Yo rfl|omega|(simp only[go_sem]<;>omega)|fail)only[go_sem]) ?_
  try delta mvA
  try delta opA
  try delta tA
  simp -implicitDefEqProofs(maxSteps:=9^7)(disch:=first|exact Yo rfl|omega|(simp only[go_sem]<;>omega)|fail)only[go_sem]
  repeat(first|apply Ya|apply Yb|apply Yc|((first|apply Yd|apply Ye|apply Yf|apply Yg|apply Yh);simp -implicitDefEqProofs(maxSteps:=9^7)(disch:=first|exact Yo rfl|omega|(simp only[go_sem]<;>omega)|fail)only[go_sem,h]<;>try with_reducible rfl)|apply Yi|apply Yj|apply Yk|apply Yl|apply Ym|apply Yn)
  rw [decide_eq_false];omega
def insideV (a b n : Int) : Int:=a + n % (b - a + 1)
theorem insideV_in {a b : Int} (n : Int) (h : a≤b) : a≤insideV a b n∧insideV a b n≤b:=by
 have h1:=Int.emod_nonneg n (show b - a + 1 ≠ 0 by omega)
 have h2:=Int.emod_lt_of_pos n (show 0 < b - a + 1 by omega)
 unfold insideV;omega
end Go.Abs.Beam
set_option linter.all false
namespace Go.Abs.Beam
set_option maxRecDepth 10000
set_option maxHeartbeats 2000000
def longR (n d p r : Int) : Int:=p * n * (1000 - r) / (d * 1000)
structure ROk (n d p : Int) : Prop where
 n0 : 1≤n
 n1 : n≤25000000000
 d0 : 1≤d
 d1 : d≤1000000
 p0 : 0≤p
 p1 : p≤100000
theorem ROk.a {n d p : Int} (h : ROk n d p) : 0≤p * n∧p * n≤2500000000000000:=by
 have h1 : 0≤p * n:=Int.mul_nonneg h.p0 (by have:=h.n0; omega)
 have h2:=Int.mul_le_mul h.p1 h.n1 (by have:=h.n0; omega) (by omega)
 exact ⟨h1,by omega⟩
theorem ROk.b {n d p r : Int} (h : ROk n d p) (h0 : 0≤r) (h1 : r≤1000) : 0≤p * n * (1000 - r)∧p * n * (1000 - r)≤2500000000000000000:=by
 have ha:=h.a;have h1' : 0≤p * n * (1000 - r):=Int.mul_nonneg ha.1 (by omega)
 have h2:=Int.mul_le_mul ha.2 (show 1000 - r≤1000 by omega) (by omega) (by omega)
 exact ⟨h1',by omega⟩
theorem ROk.l {n d p r : Int} (h : ROk n d p) (h0 : 0≤r) (h1 : r≤1000) : 0≤longR n d p r∧longR n d p r≤2500000000000000000:=by
 have hb:=h.b h0 h1;have hd:=h.d0;have h3 : 0≤longR n d p r:=Int.ediv_nonneg hb.1 (by omega)
 have h4 : longR n d p r≤p * n * (1000 - r):=Int.ediv_le_self _ hb.1;exact ⟨h3,by omega⟩
theorem ROk.mono {n d p r r' : Int} (h : ROk n d p) (h0 : r≤r') : longR n d p r'≤longR n d p r:=by
 have ha:=h.a;have h1 : p * n * (1000 - r')≤p * n * (1000 - r):=Int.mul_le_mul_of_nonneg_left (by omega) ha.1
 exact Int.ediv_le_ediv (by have:=h.d0; omega) h1
theorem tkR {t : TakeA} (h : checkT t = 0) {p : Int} (h0 : 0≤p) (h1 : p≤100000) : ROk (nT t) (dT t) p:=by
 have nb:=nT_bound h;exact ⟨nb.1.1,nb.1.2,nb.2.1,nb.2.2,h0,h1⟩
def longT (t : TakeA) (p r : Int) : Int:=longR (nT t) (dT t) p r
def figE (t : TakeA) (a b p : Int) : Int:=if checkT t = 0 then if SpanOk a b 0 200 then if 1≤p∧p≤100000 then 0 else 3 else 2 else checkT t
end Go.Abs.Beam
