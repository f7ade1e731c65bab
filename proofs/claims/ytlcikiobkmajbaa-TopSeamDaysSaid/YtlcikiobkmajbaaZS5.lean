/-
 Several texts: ZS1, ZS3, ZS4, ZS5.
-/
import Derived.Test.YtlcikiobkmajbaaK
import Derived.Test.YtlcikiobkmajbaaFns
set_option linter.all false
namespace Go.Abs.Seam
set_option maxRecDepth 10000
set_option maxHeartbeats 1000000
structure Span where
 lo : Int
 hi : Int
def Span.av (s : Span) : AV:=.agg [iv s.lo,iv s.hi]
def Span.Fits (s : Span) : Prop:=-9223372036854775808 ≤ s.lo ∧ s.lo < 9223372036854775808 ∧ -9223372036854775808 ≤ s.hi ∧ s.hi < 9223372036854775808
def Span.add (a b : Span) : Span:=⟨a.lo + b.lo,a.hi + b.hi⟩
structure Part where
 picks : Int
 lo : Int
 hi : Int
def Part.av (p : Part) : AV:=.agg [iv p.picks,iv p.lo,iv p.hi]
def Part.w (p : Part) : Span:=⟨p.lo,p.hi⟩
abbrev Part.Ok (p : Part) : Prop:=(1 ≤ p.picks ∧ p.picks ≤ 200) ∧ (1 ≤ p.lo ∧ p.lo ≤ p.hi) ∧ p.hi ≤ 10000
@[go_sem] theorem span_plain (l : List Span) : (l.map Span.av).all AV.plain = true:=by
 simp [Span.av,AV.plain,AV.plain1]
@[go_sem] theorem int_plain (l : List Int) : (l.map fun n => AV.int .i64 n).all AV.plain = true:=by
 simp [AV.plain,AV.plain1]
theorem within1_ok (lo hi n : Int) : lim F 88 [iv n,.iptr (.agg [iv lo]) 0,.iptr (.agg [iv hi]) 0] = some (.bool (decide (n < lo ∨ hi < n)),[]):=by
 by_cases h1 : n < lo <;> by_cases h2 : hi < n
 all_goals
  refine Yr (fn:=a88) (k:=3) (res:=[.tmp 4]) rfl rfl rfl (by simp -implicitDefEqProofs(maxSteps:=9^7)(disch:=first|exact Yo rfl|omega|(simp only[go_sem]<;>omega)|fail)only[go_sem]) ?_
  try delta mvA
  try delta opA
  try delta tA
  simp -implicitDefEqProofs(maxSteps:=9^7)(disch:=first|exact Yo rfl|omega|(simp only[go_sem]<;>omega)|fail)only[go_sem]
  repeat(first|apply Ya|apply Yb|apply Yc|((first|apply Yd|apply Ye|apply Yf|apply Yg|apply Yh);simp -implicitDefEqProofs(maxSteps:=9^7)(disch:=first|exact Yo rfl|omega|(simp only[go_sem]<;>omega)|fail)only[go_sem,h1,h2]<;>try with_reducible rfl)|apply Yi|apply Yj|apply Yk|apply Yl|apply Ym|apply Yn)
def idxF {α : Type} (p : α → Bool) (l : List α) : Int:=if l.any p then (l.findIdx p : Int) else -1
theorem idxF_at {α : Type} {p : α → Bool} {l : List α} {i : Nat} (h : i < l.length) (hp : p l[i] = true) (hn : ∀ j (hj : j < l.length),j < i → p l[j] = false) : idxF p l = i:=by
 have h1 : l.any p = true:=List.any_eq_true.2 ⟨l[i],List.getElem_mem h,hp⟩;have h2 : l.findIdx p = i:=(List.findIdx_eq h).2 ⟨hp,fun j hj => hn j (by omega) hj⟩
 simp [idxF,h1,h2]
theorem idxF_no {α : Type} {p : α → Bool} {l : List α} (hn : ∀ j (hj : j < l.length),p l[j] = false) : idxF p l = -1:=by
 have h1 : l.any p = false:=by
  rw [List.any_eq_false];intro x hx;obtain ⟨j,hj,rfl⟩:=List.getElem_of_mem hx;simp [hn j hj]
 simp [idxF,h1]
theorem idxF_ge {α : Type} (p : α → Bool) (l : List α) : decide (0 ≤ idxF p l) = l.any p:=by
 unfold idxF; split <;> simp_all
theorem index_ints (l : List Int) (p : Int → Bool) (f : Nat) (x y : AV) (hl : l.length < 1000000000) (hp : ∀ n ∈ l,lim F f [iv n,.iptr x 0,.iptr y 0] = some (.bool (p n),[])) :
  lim F 119 [.list 1 (l.map fun n => iv n),.func f [.iptr x 0,.iptr y 0]] = some (iv (idxF p l),[]):=by
 refine Yr (fn:=a119) (k:=2) (res:=[.tmp 4]) rfl rfl rfl (by simp -implicitDefEqProofs(maxSteps:=9^7)(disch:=first|exact Yo rfl|omega|(simp only[go_sem]<;>omega)|fail)only[go_sem]) ?_
 try delta mvA
 try delta opA
 try delta tA
 simp -implicitDefEqProofs(maxSteps:=9^7)(disch:=first|exact Yo rfl|omega|(simp only[go_sem]<;>omega)|fail)only[go_sem]
 repeat(first|apply Ya|apply Yb|apply Yc|((first|apply Yd|apply Ye|apply Yf|apply Yg|apply Yh);simp -implicitDefEqProofs(maxSteps:=9^7)(disch:=first|exact Yo rfl|omega|(simp only[go_sem]<;>omega)|fail)only[go_sem]<;>try with_reducible rfl)|apply Yi|apply Yj|apply Yk|apply Yl|apply Ym|apply Yn)
 apply Yt l.length (fun i => ⟨[(0,.list 1 (l.map fun n => iv n)),(1,.func f [.iptr x 0,.iptr y 0]),(7,iv l.length),(8,iv i)],[],[],10000000⟩) (fun i => ∀ j (hj : j < l.length),j < i → p l[j] = false)
 ·simp -implicitDefEqProofs(maxSteps:=9^7)(disch:=first|exact Yo rfl|omega|(simp only[go_sem]<;>omega)|fail)only[go_sem,norm_eq,Ok.some]
  rfl
 ·intro j hj h; omega
 intro i hi hn;by_cases h : i < l.length
 ·have hc:=hp l[i] (List.getElem_mem h)
  cases hb : p l[i] with
  | true =>
   rw [hb] at hc;repeat(first|apply Ya|apply Yb|apply Yc|((first|apply Yd|apply Ye|apply Yf|apply Yg|apply Yh);simp -implicitDefEqProofs(maxSteps:=9^7)(disch:=first|exact Yo rfl|omega|(simp only[go_sem]<;>omega)|fail)only[go_sem,h,List.getElem?_map,List.getElem?_eq_getElem h,Option.map_some,hc,Int.ofNat_lt]<;>try with_reducible rfl)|apply Yi|apply Yj|apply Yk|apply Yl|apply Ym|apply Yn)
   rw [idxF_at h hb hn]
  | false =>
   rw [hb] at hc;repeat(first|apply Ya|apply Yb|apply Yc|((first|apply Yd|apply Ye|apply Yf|apply Yg|apply Yh);simp -implicitDefEqProofs(maxSteps:=9^7)(disch:=first|exact Yo rfl|omega|(simp only[go_sem]<;>omega)|fail)only[go_sem,h,List.getElem?_map,List.getElem?_eq_getElem h,Option.map_some,hc,Int.ofNat_lt]<;>try with_reducible rfl)|apply Yi|apply Yj|apply Yk|apply Yl|apply Ym|apply Yn)
   apply Ys
   ·simp -implicitDefEqProofs(maxSteps:=9^7)(disch:=first|exact Yo rfl|omega|(simp only[go_sem]<;>omega)|fail)only[go_sem,norm_eq,Ok.some]; with_reducible rfl
   refine ⟨h,by simp,fun j hj hji => ?_⟩
   by_cases e : j = i
   ·subst e; exact hb
   ·exact hn j hj (by omega)
 ·repeat(first|apply Ya|apply Yb|apply Yc|((first|apply Yd|apply Ye|apply Yf|apply Yg|apply Yh);simp -implicitDefEqProofs(maxSteps:=9^7)(disch:=first|exact Yo rfl|omega|(simp only[go_sem]<;>omega)|fail)only[go_sem,h,Int.ofNat_lt]<;>try with_reducible rfl)|apply Yi|apply Yj|apply Yk|apply Yl|apply Ym|apply Yn)
  rw [idxF_no fun j hj => hn j hj (by omega)]
theorem contains_ints (l : List Int) (p : Int → Bool) (f : Nat) (x y : AV) (hl : l.length < 1000000000) (hp : ∀ n ∈ l,lim F f [iv n,.iptr x 0,.iptr y 0] = some (.bool (p n),[])) :
  lim F 87 [.list 1 (l.map fun n => iv n),.func f [.iptr x 0,.iptr y 0]] = some (.bool (l.any p),[]):=by
 have h:=index_ints l p f x y hl hp;refine Yr (fn:=a87) (k:=2) (res:=[.tmp 4]) rfl rfl rfl (by simp -implicitDefEqProofs(maxSteps:=9^7)(disch:=first|exact Yo rfl|omega|(simp only[go_sem]<;>omega)|fail)only[go_sem]) ?_
 try delta mvA
 try delta opA
 try delta tA
 simp -implicitDefEqProofs(maxSteps:=9^7)(disch:=first|exact Yo rfl|omega|(simp only[go_sem]<;>omega)|fail)only[go_sem]
 repeat(first|apply Ya|apply Yb|apply Yc|((first|apply Yd|apply Ye|apply Yf|apply Yg|apply Yh);simp -implicitDefEqProofs(maxSteps:=9^7)(disch:=first|exact Yo rfl|omega|(simp only[go_sem]<;>omega)|fail)only[go_sem,h,idxF_ge]<;>try with_reducible rfl)|apply Yi|apply Yj|apply Yk|apply Yl|apply Ym|apply Yn)
theorem within_ok (lo hi : Int) (l : List Int) (hl : l.length < 1000000000) : lim F 52 [iv lo,iv hi,.list 1 (l.map fun n => iv n)] = some (.bool (l.all fun n => decide (lo ≤ n ∧ n ≤ hi)),[]):=by
 have h:=contains_ints l (fun n => decide (n < lo ∨ hi < n)) 88 (.agg [iv lo]) (.agg [iv hi]) hl (fun n _ => within1_ok lo hi n)
 refine Yr (fn:=a52) (k:=3) (res:=[.tmp 6]) rfl rfl rfl (by simp -implicitDefEqProofs(maxSteps:=9^7)(disch:=first|exact Yo rfl|omega|(simp only[go_sem]<;>omega)|fail)only[go_sem]) ?_
 try delta mvA
 try delta opA
 try delta tA
 simp -implicitDefEqProofs(maxSteps:=9^7)(disch:=first|exact Yo rfl|omega|(simp only[go_sem]<;>omega)|fail)only[go_sem]
 repeat(first|apply Ya|apply Yb|apply Yc|((first|apply Yd|apply Ye|apply Yf|apply Yg|apply Yh);simp -implicitDefEqProofs(maxSteps:=9^7)(disch:=first|exact Yo rfl|omega|(simp only[go_sem]<;>omega)|fail)only[go_sem,h]<;>try with_reducible rfl)|apply Yi|apply Yj|apply Yk|apply Yl|apply Ym|apply Yn)
 simp only [Option.some.injEq,Prod.mk.injEq,AV.bool.injEq,and_true];rw [List.any_eq_not_all_not,Bool.not_not]
 congr 1
 funext n;by_cases h1 : n < lo <;> by_cases h2 : hi < n <;> simp [h1,h2] <;> omega
def widthsL : List Part → List Span
 | [] => []
 | p :: l => List.replicate p.picks.toNat p.w ++ widthsL l
def picksL : List Part → Int
 | [] => 0
 | p :: l => p.picks + picksL l
def pre (l : List Span) : Nat → Span
 | 0 => ⟨0,0⟩
 | i + 1 => match l[i]? with
  | some s => (pre l i).add s
  | none => pre l i
def sumsL (l : List Span) : List Span:=(List.range (l.length + 1)).map (pre l)
theorem pre_succ {l : List Span} {i : Nat} (h : i < l.length) : pre l (i + 1) = (pre l i).add l[i]:=by
 simp [pre,h]
def checkL (l : List Part) : Int :=
 if 12 < l.length then 5 else if l.length = 0 then 7 else if l.any (fun p => decide (¬ p.Ok)) then 2 else if 200 < picksL l then 8 else 0
end Go.Abs.Seam
set_option linter.all false
namespace Go.Abs.Seam
set_option maxRecDepth 10000
set_option maxHeartbeats 1000000
def Small (m : List Span) : Prop:=m.length ≤ 200 ∧ ∀ s ∈ m,-20000 ≤ s.lo ∧ s.lo ≤ 20000 ∧ -20000 ≤ s.hi ∧ s.hi ≤ 20000
theorem Small.sub {m k : List Span} (h : Small m) (hs : k.Sublist m) : Small k:=⟨Nat.le_trans hs.length_le h.1,fun s hs' => h.2 s (hs.subset hs')⟩
theorem Small.pre {m : List Span} (h : Small m) : ∀ (i : Nat),i ≤ m.length → -20000 * i ≤ (pre m i).lo ∧ (pre m i).lo ≤ 20000 * i ∧ -20000 * i ≤ (pre m i).hi ∧ (pre m i).hi ≤ 20000 * i
 | 0,_ => by simp [Go.Abs.Seam.pre]
 | i + 1,hi => by
  have ih:=h.pre i (by omega)
  have h1:=h.2 m[i] (List.getElem_mem (by omega))
  rw [pre_succ (by omega : i < m.length)]
  simp only [Span.add];omega
def strE (m : List Span) (k : Nat) : Span:=⟨max (pre m k).lo (0 - ((pre m m.length).hi - (pre m k).hi)),min (pre m k).hi (0 - ((pre m m.length).lo - (pre m k).lo))⟩
def strL (m : List Span) : List Span:=(List.range (m.length + 1)).map (strE m)
def Span.Has0 (s : Span) : Prop:=s.lo ≤ 0 ∧ 0 ≤ s.hi
instance (s : Span) : Decidable s.Has0:=by unfold Span.Has0; infer_instance
def seg (m : List Span) (p q : Nat) : List Span:=(m.drop p).take (q - p)
def aheadGo (m : List Span) (f : Nat) : List Int → Option (List Span)
 | [] => some (sumsL (m.drop f))
 | t :: ts => if (pre (seg m f t.toNat) (t.toNat - f)).Has0 then (aheadGo m t.toNat ts).map ((strL (seg m f t.toNat)).take (t.toNat - f) ++ ·) else none
def Up (n : Nat) : Int → List Int → Prop
 | _,[] => True
 | f,t :: ts => f < t ∧ t ≤ n ∧ Up n t ts
end Go.Abs.Seam
set_option linter.all false
namespace Go.Abs.Seam
set_option maxRecDepth 10000
set_option maxHeartbeats 4000000
@[go_sem] theorem cast0 : ((0 : Nat) : Int) = 0:=id rfl
@[go_sem] theorem cast1 : ((1 : Nat) : Int) = 1:=id rfl
@[go_sem] theorem cast2 : ((2 : Nat) : Int) = 2:=id rfl
def Span.sub (a b : Span) : Span:=⟨a.lo - b.hi,a.hi - b.lo⟩
def moreL (wa wb : List Span) : List Span:=List.zipWith Span.sub wa wb
structure PairL where
 a : List Span
 b : List Span
 more : List Span
 e : Int
def pairL (a b : List Part) : PairL :=
 if checkL a ≠ 0 then ⟨[],[],[],checkL a⟩ else if checkL b ≠ 0 then ⟨[],[],[],checkL b⟩
 else if picksL a ≠ picksL b then ⟨widthsL a,widthsL b,[],4⟩ else ⟨widthsL a,widthsL b,moreL (widthsL a) (widthsL b),0⟩
def PairL.av (p : PairL) : AV:=.agg [.own 2 (p.a.map Span.av),.own 2 (p.b.map Span.av),.own 2 (p.more.map Span.av)]
end Go.Abs.Seam
set_option linter.all false
namespace Go.Abs.Seam
set_option maxRecDepth 10000
set_option maxHeartbeats 4000000
def incL : List Int → Bool
 | a :: b :: r => decide (a < b) && incL (b :: r)
 | _ => true
def openE (a b : List Part) (ts : List Int) : Int :=
 if (pairL a b).e ≠ 0 then (pairL a b).e else if (ts.all fun t => decide (1 ≤ t ∧ t ≤ (pairL a b).more.length)) = false then 2 else if incL ts = false then 6
 else if (aheadGo (pairL a b).more 0 ts).isSome = false then 9 else 0
def openL (a b : List Part) (ts : List Int) : List Span:=if openE a b ts = 0 then (aheadGo (pairL a b).more 0 ts).getD [] else []
def placesL (l : List Part) : List Span:=if checkL l = 0 then sumsL (widthsL l) else []
structure PairA where
 a : List Part
 b : List Part
 marks : List Int
def PairA.av (x : PairA) : AV:=.agg [.list 3 (x.a.map Part.av),.list 3 (x.b.map Part.av),.list 1 (x.marks.map fun n => iv n)]
abbrev PairA.Large (x : PairA) : Prop:=20 < x.a.length ∨ 20 < x.b.length ∨ 210 < x.marks.length
end Go.Abs.Seam
