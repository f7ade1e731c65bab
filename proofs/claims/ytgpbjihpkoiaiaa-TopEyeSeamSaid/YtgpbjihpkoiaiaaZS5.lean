/-
 Several texts: ZS1, ZS3, ZS4, ZS5.
-/
import Derived.Test.YtgpbjihpkoiaiaaK
import Derived.Test.YtgpbjihpkoiaiaaFns
set_option linter.all false
namespace Go.Abs.Seam
set_option maxRecDepth 10000
set_option maxHeartbeats 1000000
structure Span where
 lo : Int
 hi : Int
def Span.av (s : Span) : AV := .agg [iv s.lo,iv s.hi]
def Span.Fits (s : Span) : Prop := -9223372036854775808 ≤ s.lo ∧ s.lo < 9223372036854775808 ∧ -9223372036854775808 ≤ s.hi ∧ s.hi < 9223372036854775808
def Span.add (a b : Span) : Span := ⟨a.lo + b.lo,a.hi + b.hi⟩
structure Part where
 picks : Int
 lo : Int
 hi : Int
def Part.av (p : Part) : AV := .agg [iv p.picks,iv p.lo,iv p.hi]
def Part.w (p : Part) : Span := ⟨p.lo,p.hi⟩
abbrev Part.Ok (p : Part) : Prop := (1 ≤ p.picks ∧ p.picks ≤ 200) ∧ (1 ≤ p.lo ∧ p.lo ≤ p.hi) ∧ p.hi ≤ 10000
@[go_sem] theorem span_plain (l : List Span) : (l.map Span.av).all AV.plain = true := by
 simp [Span.av,AV.plain,AV.plain1]
theorem has_ok (a b n : Int) : lim F 126 [.agg [iv a,iv b],iv n] = some (.bool (decide (a ≤ n ∧ n ≤ b)),[]) := by
 by_cases h1 : a ≤ n <;> by_cases h2 : n ≤ b
 all_goals
  refine Yr (fn:=a126) (k:=2) (res:=[.tmp 4]) rfl rfl rfl (by simp -implicitDefEqProofs(maxSteps:=9^7)(disch:=first|exact Yo rfl|omega|(simp only[go_sem]<;>omega)|fail)only[go_sem]) ?_
  try delta mvA
  try delta opA
  try delta tA
  simp -implicitDefEqProofs(maxSteps:=9^7)(disch:=first|exact Yo rfl|omega|(simp only[go_sem]<;>omega)|fail)only[go_sem]
  repeat(first|apply Ya|apply Yb|apply Yc|((first|apply Yd|apply Ye|apply Yf|apply Yg|apply Yh);simp -implicitDefEqProofs(maxSteps:=9^7)(disch:=first|exact Yo rfl|omega|(simp only[go_sem]<;>omega)|fail)only[go_sem,h1,h2]<;>try with_reducible rfl)|apply Yi|apply Yj|apply Yk|apply Yl|apply Ym|apply Yn)
theorem plus_ok (a b c d : Int) (h : (Span.mk (a + c) (b + d)).Fits) : lim F 169 [.agg [iv a,iv b],.agg [iv c,iv d]] = some (.agg [iv (a + c),iv (b + d)],[]) := by
 obtain ⟨h1,h2,h3,h4⟩ := h;simp only at h1 h2 h3 h4;refine Yr (fn:=a169) (k:=2) (res:=[.cell 4 2 true]) rfl rfl rfl (by simp -implicitDefEqProofs(maxSteps:=9^7)(disch:=first|exact Yo rfl|omega|(simp only[go_sem]<;>omega)|fail)only[go_sem]) ?_
 try delta mvA
 try delta opA
 try delta tA
 simp -implicitDefEqProofs(maxSteps:=9^7)(disch:=first|exact Yo rfl|omega|(simp only[go_sem]<;>omega)|fail)only[go_sem]
 repeat(first|apply Ya|apply Yb|apply Yc|((first|apply Yd|apply Ye|apply Yf|apply Yg|apply Yh);simp -implicitDefEqProofs(maxSteps:=9^7)(disch:=first|exact Yo rfl|omega|(simp only[go_sem]<;>omega)|fail)only[go_sem]<;>try with_reducible rfl)|apply Yi|apply Yj|apply Yk|apply Yl|apply Ym|apply Yn)
theorem minus_ok (a b c d : Int) (h : (Span.mk (a - d) (b - c)).Fits) : lim F 123 [.agg [iv a,iv b],.agg [iv c,iv d]] = some (.agg [iv (a - d),iv (b - c)],[]) := by
 obtain ⟨h1,h2,h3,h4⟩ := h;simp only at h1 h2 h3 h4;refine Yr (fn:=a123) (k:=2) (res:=[.cell 4 2 true]) rfl rfl rfl (by simp -implicitDefEqProofs(maxSteps:=9^7)(disch:=first|exact Yo rfl|omega|(simp only[go_sem]<;>omega)|fail)only[go_sem]) ?_
 try delta mvA
 try delta opA
 try delta tA
 simp -implicitDefEqProofs(maxSteps:=9^7)(disch:=first|exact Yo rfl|omega|(simp only[go_sem]<;>omega)|fail)only[go_sem]
 repeat(first|apply Ya|apply Yb|apply Yc|((first|apply Yd|apply Ye|apply Yf|apply Yg|apply Yh);simp -implicitDefEqProofs(maxSteps:=9^7)(disch:=first|exact Yo rfl|omega|(simp only[go_sem]<;>omega)|fail)only[go_sem]<;>try with_reducible rfl)|apply Yi|apply Yj|apply Yk|apply Yl|apply Ym|apply Yn)
theorem both_ok (a b c d : Int) : lim F 125 [.agg [iv a,iv b],.agg [iv c,iv d]] = some (.agg [iv (max a c),iv (min b d)],[]) := by
 refine Yr (fn:=a125) (k:=2) (res:=[.cell 4 2 true]) rfl rfl rfl (by simp -implicitDefEqProofs(maxSteps:=9^7)(disch:=first|exact Yo rfl|omega|(simp only[go_sem]<;>omega)|fail)only[go_sem]) ?_
 try delta mvA
 try delta opA
 try delta tA
 simp -implicitDefEqProofs(maxSteps:=9^7)(disch:=first|exact Yo rfl|omega|(simp only[go_sem]<;>omega)|fail)only[go_sem]
 repeat(first|apply Ya|apply Yb|apply Yc|((first|apply Yd|apply Ye|apply Yf|apply Yg|apply Yh);simp -implicitDefEqProofs(maxSteps:=9^7)(disch:=first|exact Yo rfl|omega|(simp only[go_sem]<;>omega)|fail)only[go_sem]<;>try with_reducible rfl)|apply Yi|apply Yj|apply Yk|apply Yl|apply Ym|apply Yn)
theorem within1_ok (lo hi n : Int) : lim F 120 [iv n,.iptr (.agg [iv lo]) 0,.iptr (.agg [iv hi]) 0] = some (.bool (decide (n < lo ∨ hi < n)),[]) := by
 by_cases h1 : n < lo <;> by_cases h2 : hi < n
 all_goals
  refine Yr (fn:=a120) (k:=3) (res:=[.tmp 4]) rfl rfl rfl (by simp -implicitDefEqProofs(maxSteps:=9^7)(disch:=first|exact Yo rfl|omega|(simp only[go_sem]<;>omega)|fail)only[go_sem]) ?_
  try delta mvA
  try delta opA
  try delta tA
  simp -implicitDefEqProofs(maxSteps:=9^7)(disch:=first|exact Yo rfl|omega|(simp only[go_sem]<;>omega)|fail)only[go_sem]
  repeat(first|apply Ya|apply Yb|apply Yc|((first|apply Yd|apply Ye|apply Yf|apply Yg|apply Yh);simp -implicitDefEqProofs(maxSteps:=9^7)(disch:=first|exact Yo rfl|omega|(simp only[go_sem]<;>omega)|fail)only[go_sem,h1,h2]<;>try with_reducible rfl)|apply Yi|apply Yj|apply Yk|apply Yl|apply Ym|apply Yn)
def idxF {α : Type} (p : α → Bool) (l : List α) : Int := if l.any p then (l.findIdx p : Int) else -1
theorem idxF_at {α : Type} {p : α → Bool} {l : List α} {i : Nat} (h : i < l.length) (hp : p l[i] = true) (hn : ∀ j (hj : j < l.length),j < i → p l[j] = false) : idxF p l = i := by
 have h1 : l.any p = true := List.any_eq_true.2 ⟨l[i],List.getElem_mem h,hp⟩;have h2 : l.findIdx p = i := (List.findIdx_eq h).2 ⟨hp,fun j hj => hn j (by omega) hj⟩
 simp [idxF,h1,h2]
theorem idxF_no {α : Type} {p : α → Bool} {l : List α} (hn : ∀ j (hj : j < l.length),p l[j] = false) : idxF p l = -1 := by
 have h1 : l.any p = false := by
  rw [List.any_eq_false];intro x hx;obtain ⟨j,hj,rfl⟩ := List.getElem_of_mem hx;simp [hn j hj]
 simp [idxF,h1]
theorem idxF_ge {α : Type} (p : α → Bool) (l : List α) : decide (0 ≤ idxF p l) = l.any p := by
 unfold idxF; split <;> simp_all
theorem index_ints (l : List Int) (p : Int → Bool) (f : Nat) (x y : AV) (hl : l.length < 1000000000) (hp : ∀ n ∈ l,lim F f [iv n,.iptr x 0,.iptr y 0] = some (.bool (p n),[])) :
  lim F 132 [.list 1 (l.map fun n => iv n),.func f [.iptr x 0,.iptr y 0]] = some (iv (idxF p l),[]) := by
 refine Yr (fn:=a132) (k:=2) (res:=[.tmp 4]) rfl rfl rfl (by simp -implicitDefEqProofs(maxSteps:=9^7)(disch:=first|exact Yo rfl|omega|(simp only[go_sem]<;>omega)|fail)only[go_sem]) ?_
 try delta mvA
 try delta opA
 try delta tA
 simp -implicitDefEqProofs(maxSteps:=9^7)(disch:=first|exact Yo rfl|omega|(simp only[go_sem]<;>omega)|fail)only[go_sem]
 repeat(first|apply Ya|apply Yb|apply Yc|((first|apply Yd|apply Ye|apply Yf|apply Yg|apply Yh);simp -implicitDefEqProofs(maxSteps:=9^7)(disch:=first|exact Yo rfl|omega|(simp only[go_sem]<;>omega)|fail)only[go_sem]<;>try with_reducible rfl)|apply Yi|apply Yj|apply Yk|apply Yl|apply Ym|apply Yn)
 apply Yt l.length (fun i => ⟨[(0,.list 1 (l.map fun n => iv n)),(1,.func f [.iptr x 0,.iptr y 0]),(7,iv l.length),(8,iv i)],[],[],10000000⟩) (fun i => ∀ j (hj : j < l.length),j < i → p l[j] = false)
 ·simp -implicitDefEqProofs(maxSteps:=9^7)(disch:=first|exact Yo rfl|omega|(simp only[go_sem]<;>omega)|fail)only[go_sem,norm_eq,Ok.some]
  rfl
 ·intro j hj h; omega
 intro i hi hn;by_cases h : i < l.length
 ·have hc := hp l[i] (List.getElem_mem h)
  cases hb : p l[i] with
  | true =>
   rw [hb] at hc;repeat(first|apply Ya|apply Yb|apply Yc|((first|apply Yd|apply Ye|apply Yf|apply Yg|apply Yh);simp -implicitDefEqProofs(maxSteps:=9^7)(disch:=first|exact Yo rfl|omega|(simp only[go_sem]<;>omega)|fail)only[go_sem,h,List.getElem?_map,List.getElem?_eq_getElem h,Option.map_some,hc,Int.ofNat_lt]<;>try with_reducible rfl)|apply Yi|apply Yj|apply Yk|apply Yl|apply Ym|apply Yn)
   rw [idxF_at h hb hn]
  | false =>
   rw [hb] at hc;repeat(first|apply Ya|apply Yb|apply Yc|((first|apply Yd|apply Ye|apply Yf|apply Yg|apply Yh);simp -implicitDefEqProofs(maxSteps:=9^7)(disch:=first|exact Yo rfl|omega|(simp only[go_sem]<;>omega)|fail)only[go_sem,h,List.getElem?_map,List.getElem?_eq_getElem h,Option.map_some,hc,Int.ofNat_lt]<;>try with_reducible rfl)|apply Yi|apply Yj|apply Yk|apply Yl|apply Ym|apply Yn)
   apply Ys
   ·simp -implicitDefEqProofs(maxSteps:=9^7)(disch:=first|exact Yo rfl|omega|(simp only[go_sem]<;>omega)|fail)only[go_sem,norm_eq,Ok.some]; with_reducible rfl
   refine ⟨h,by simp,fun j hj hji => ?_⟩
   by_cases e : j = i
   ·subst e; exact hb
   ·exact hn j hj (by omega)
 ·repeat(first|apply Ya|apply Yb|apply Yc|((first|apply Yd|apply Ye|apply Yf|apply Yg|apply Yh);simp -implicitDefEqProofs(maxSteps:=9^7)(disch:=first|exact Yo rfl|omega|(simp only[go_sem]<;>omega)|fail)only[go_sem,h,Int.ofNat_lt]<;>try with_reducible rfl)|apply Yi|apply Yj|apply Yk|apply Yl|apply Ym|apply Yn)
  rw [idxF_no fun j hj => hn j hj (by omega)]
theorem contains_ints (l : List Int) (p : Int → Bool) (f : Nat) (x y : AV) (hl : l.length < 1000000000) (hp : ∀ n ∈ l,lim F f [iv n,.iptr x 0,.iptr y 0] = some (.bool (p n),[])) :
  lim F 76 [.list 1 (l.map fun n => iv n),.func f [.iptr x 0,.iptr y 0]] = some (.bool (l.any p),[]) := by
 have h := index_ints l p f x y hl hp;refine Yr (fn:=a76) (k:=2) (res:=[.tmp 4]) rfl rfl rfl (by simp -implicitDefEqProofs(maxSteps:=9^7)(disch:=first|exact Yo rfl|omega|(simp only[go_sem]<;>omega)|fail)only[go_sem]) ?_
 try delta mvA
 try delta opA
 try delta tA
 simp -implicitDefEqProofs(maxSteps:=9^7)(disch:=first|exact Yo rfl|omega|(simp only[go_sem]<;>omega)|fail)only[go_sem]
 repeat(first|apply Ya|apply Yb|apply Yc|((first|apply Yd|apply Ye|apply Yf|apply Yg|apply Yh);simp -implicitDefEqProofs(maxSteps:=9^7)(disch:=first|exact Yo rfl|omega|(simp only[go_sem]<;>omega)|fail)only[go_sem,h,idxF_ge]<;>try with_reducible rfl)|apply Yi|apply Yj|apply Yk|apply Yl|apply Ym|apply Yn)
theorem within_ok (lo hi : Int) (l : List Int) (hl : l.length < 1000000000) : lim F 63 [iv lo,iv hi,.list 1 (l.map fun n => iv n)] = some (.bool (l.all fun n => decide (lo ≤ n ∧ n ≤ hi)),[]) := by
 have h := contains_ints l (fun n => decide (n < lo ∨ hi < n)) 120 (.agg [iv lo]) (.agg [iv hi]) hl (fun n _ => within1_ok lo hi n)
 refine Yr (fn:=a63) (k:=3) (res:=[.tmp 6]) rfl rfl rfl (by simp -implicitDefEqProofs(maxSteps:=9^7)(disch:=first|exact Yo rfl|omega|(simp only[go_sem]<;>omega)|fail)only[go_sem]) ?_
 try delta mvA
 try delta opA
 try delta tA
 simp -implicitDefEqProofs(maxSteps:=9^7)(disch:=first|exact Yo rfl|omega|(simp only[go_sem]<;>omega)|fail)only[go_sem]
 repeat(first|apply Ya|apply Yb|apply Yc|((first|apply Yd|apply Ye|apply Yf|apply Yg|apply Yh);simp -implicitDefEqProofs(maxSteps:=9^7)(disch:=first|exact Yo rfl|omega|(simp only[go_sem]<;>omega)|fail)only[go_sem,h]<;>try with_reducible rfl)|apply Yi|apply Yj|apply Yk|apply Yl|apply Ym|apply Yn)
 simp only [Option.some.injEq,Prod.mk.injEq,AV.bool.injEq,and_true];rw [List.any_eq_not_all_not,Bool.not_not]
 congr 1
 funext n;by_cases h1 : n < lo <;> by_cases h2 : hi < n <;> simp [h1,h2] <;> omega
theorem isPart_ok (p : Part) : lim F 168 [.agg [iv p.picks,iv p.lo,iv p.hi]] = some (.bool (decide p.Ok),[]) := by
 have w1 := within_ok 1 200 [p.picks] (by simp)
 have w2 := within_ok 1 10000 [p.lo,p.hi] (by simp)
 simp only [List.map_cons,List.map_nil,List.all_cons,List.all_nil,Bool.and_true] at w1 w2;by_cases h1 : 1 ≤ p.picks ∧ p.picks ≤ 200
 ·by_cases h2 : (1 ≤ p.lo ∧ p.lo ≤ 10000) ∧ (1 ≤ p.hi ∧ p.hi ≤ 10000)
  ·by_cases h3 : p.lo ≤ p.hi
   all_goals
    refine Yr (fn:=a168) (k:=1) (res:=[.tmp 2]) rfl rfl rfl (by simp -implicitDefEqProofs(maxSteps:=9^7)(disch:=first|exact Yo rfl|omega|(simp only[go_sem]<;>omega)|fail)only[go_sem]) ?_
    try delta mvA
    try delta opA
    try delta tA
    simp -implicitDefEqProofs(maxSteps:=9^7)(disch:=first|exact Yo rfl|omega|(simp only[go_sem]<;>omega)|fail)only[go_sem]
    repeat(first|apply Ya|apply Yb|apply Yc|((first|apply Yd|apply Ye|apply Yf|apply Yg|apply Yh);simp -implicitDefEqProofs(maxSteps:=9^7)(disch:=first|exact Yo rfl|omega|(simp only[go_sem]<;>omega)|fail)only[go_sem,w1,w2,h1,h2,h3]<;>try with_reducible rfl)|apply Yi|apply Yj|apply Yk|apply Yl|apply Ym|apply Yn)
    simp [Part.Ok,h1,h2,h3]
  ·refine Yr (fn:=a168) (k:=1) (res:=[.tmp 2]) rfl rfl rfl (by simp -implicitDefEqProofs(maxSteps:=9^7)(disch:=first|exact Yo rfl|omega|(simp only[go_sem]<;>omega)|fail)only[go_sem]) ?_
   try delta mvA
   try delta opA
   try delta tA
   simp -implicitDefEqProofs(maxSteps:=9^7)(disch:=first|exact Yo rfl|omega|(simp only[go_sem]<;>omega)|fail)only[go_sem]
   have e : (decide (1 ≤ p.lo ∧ p.lo ≤ 10000) && decide (1 ≤ p.hi ∧ p.hi ≤ 10000)) = false := by
    rw [← Bool.decide_and]; exact decide_eq_false h2
   repeat(first|apply Ya|apply Yb|apply Yc|((first|apply Yd|apply Ye|apply Yf|apply Yg|apply Yh);simp -implicitDefEqProofs(maxSteps:=9^7)(disch:=first|exact Yo rfl|omega|(simp only[go_sem]<;>omega)|fail)only[go_sem,w1,w2,h1,e]<;>try with_reducible rfl)|apply Yi|apply Yj|apply Yk|apply Yl|apply Ym|apply Yn)
   have : ¬ p.Ok := fun ⟨_,a,b⟩ => h2 (by omega)
   simp [this]
 ·refine Yr (fn:=a168) (k:=1) (res:=[.tmp 2]) rfl rfl rfl (by simp -implicitDefEqProofs(maxSteps:=9^7)(disch:=first|exact Yo rfl|omega|(simp only[go_sem]<;>omega)|fail)only[go_sem]) ?_
  try delta mvA
  try delta opA
  try delta tA
  simp -implicitDefEqProofs(maxSteps:=9^7)(disch:=first|exact Yo rfl|omega|(simp only[go_sem]<;>omega)|fail)only[go_sem]
  repeat(first|apply Ya|apply Yb|apply Yc|((first|apply Yd|apply Ye|apply Yf|apply Yg|apply Yh);simp -implicitDefEqProofs(maxSteps:=9^7)(disch:=first|exact Yo rfl|omega|(simp only[go_sem]<;>omega)|fail)only[go_sem,w1,w2,h1]<;>try with_reducible rfl)|apply Yi|apply Yj|apply Yk|apply Yl|apply Ym|apply Yn)
  have : ¬ p.Ok := fun ⟨a,_⟩ => h1 a
  simp [this]
theorem check1_ok (p : Part) : lim F 167 [.agg [iv p.picks,iv p.lo,iv p.hi]] = some (.bool (decide (¬ p.Ok)),[]) := by
 have h := isPart_ok p;refine Yr (fn:=a167) (k:=1) (res:=[.tmp 2]) rfl rfl rfl (by simp -implicitDefEqProofs(maxSteps:=9^7)(disch:=first|exact Yo rfl|omega|(simp only[go_sem]<;>omega)|fail)only[go_sem]) ?_
 try delta mvA
 try delta opA
 try delta tA
 simp -implicitDefEqProofs(maxSteps:=9^7)(disch:=first|exact Yo rfl|omega|(simp only[go_sem]<;>omega)|fail)only[go_sem]
 repeat(first|apply Ya|apply Yb|apply Yc|((first|apply Yd|apply Ye|apply Yf|apply Yg|apply Yh);simp -implicitDefEqProofs(maxSteps:=9^7)(disch:=first|exact Yo rfl|omega|(simp only[go_sem]<;>omega)|fail)only[go_sem,h]<;>try with_reducible rfl)|apply Yi|apply Yj|apply Yk|apply Yl|apply Ym|apply Yn)
 simp only [decide_not]
theorem index_parts (l : List Part) (p : Part → Bool) (f : Nat) (hl : l.length < 1000000000) (hp : ∀ n ∈ l,lim F f [.agg [iv n.picks,iv n.lo,iv n.hi]] = some (.bool (p n),[])) :
  lim F 193 [.list 3 (l.map Part.av),.func f []] = some (iv (idxF p l),[]) := by
 refine Yr (fn:=a193) (k:=2) (res:=[.tmp 4]) rfl rfl rfl (by simp -implicitDefEqProofs(maxSteps:=9^7)(disch:=first|exact Yo rfl|omega|(simp only[go_sem]<;>omega)|fail)only[go_sem]) ?_
 try delta mvA
 try delta opA
 try delta tA
 simp -implicitDefEqProofs(maxSteps:=9^7)(disch:=first|exact Yo rfl|omega|(simp only[go_sem]<;>omega)|fail)only[go_sem]
 repeat(first|apply Ya|apply Yb|apply Yc|((first|apply Yd|apply Ye|apply Yf|apply Yg|apply Yh);simp -implicitDefEqProofs(maxSteps:=9^7)(disch:=first|exact Yo rfl|omega|(simp only[go_sem]<;>omega)|fail)only[go_sem]<;>try with_reducible rfl)|apply Yi|apply Yj|apply Yk|apply Yl|apply Ym|apply Yn)
 apply Yt l.length (fun i => ⟨[(0,.list 3 (l.map Part.av)),(1,.func f []),(7,iv l.length),(8,iv i)],[],[],10000000⟩) (fun i => ∀ j (hj : j < l.length),j < i → p l[j] = false)
 ·simp -implicitDefEqProofs(maxSteps:=9^7)(disch:=first|exact Yo rfl|omega|(simp only[go_sem]<;>omega)|fail)only[go_sem,norm_eq,Ok.some]
  rfl
 ·intro j hj h; omega
 intro i hi hn;by_cases h : i < l.length
 ·have hc := hp l[i] (List.getElem_mem h)
  cases hb : p l[i] with
  | true =>
   rw [hb] at hc;repeat(first|apply Ya|apply Yb|apply Yc|((first|apply Yd|apply Ye|apply Yf|apply Yg|apply Yh);simp -implicitDefEqProofs(maxSteps:=9^7)(disch:=first|exact Yo rfl|omega|(simp only[go_sem]<;>omega)|fail)only[go_sem,h,List.getElem?_map,List.getElem?_eq_getElem h,Option.map_some,hc,Int.ofNat_lt,Part.av.eq_1]<;>try with_reducible rfl)|apply Yi|apply Yj|apply Yk|apply Yl|apply Ym|apply Yn)
   rw [idxF_at h hb hn]
  | false =>
   rw [hb] at hc;repeat(first|apply Ya|apply Yb|apply Yc|((first|apply Yd|apply Ye|apply Yf|apply Yg|apply Yh);simp -implicitDefEqProofs(maxSteps:=9^7)(disch:=first|exact Yo rfl|omega|(simp only[go_sem]<;>omega)|fail)only[go_sem,h,List.getElem?_map,List.getElem?_eq_getElem h,Option.map_some,hc,Int.ofNat_lt,Part.av.eq_1]<;>try with_reducible rfl)|apply Yi|apply Yj|apply Yk|apply Yl|apply Ym|apply Yn)
   apply Ys
   ·simp -implicitDefEqProofs(maxSteps:=9^7)(disch:=first|exact Yo rfl|omega|(simp only[go_sem]<;>omega)|fail)only[go_sem,norm_eq,Ok.some]; with_reducible rfl
   refine ⟨h,by simp,fun j hj hji => ?_⟩
   by_cases e : j = i
   ·subst e; exact hb
   ·exact hn j hj (by omega)
 ·repeat(first|apply Ya|apply Yb|apply Yc|((first|apply Yd|apply Ye|apply Yf|apply Yg|apply Yh);simp -implicitDefEqProofs(maxSteps:=9^7)(disch:=first|exact Yo rfl|omega|(simp only[go_sem]<;>omega)|fail)only[go_sem,h,Int.ofNat_lt]<;>try with_reducible rfl)|apply Yi|apply Yj|apply Yk|apply Yl|apply Ym|apply Yn)
  rw [idxF_no fun j hj => hn j hj (by omega)]
theorem contains_parts (l : List Part) (p : Part → Bool) (f : Nat) (hl : l.length < 1000000000) (hp : ∀ n ∈ l,lim F f [.agg [iv n.picks,iv n.lo,iv n.hi]] = some (.bool (p n),[])) :
  lim F 166 [.list 3 (l.map Part.av),.func f []] = some (.bool (l.any p),[]) := by
 have h := index_parts l p f hl hp;refine Yr (fn:=a166) (k:=2) (res:=[.tmp 4]) rfl rfl rfl (by simp -implicitDefEqProofs(maxSteps:=9^7)(disch:=first|exact Yo rfl|omega|(simp only[go_sem]<;>omega)|fail)only[go_sem]) ?_
 try delta mvA
 try delta opA
 try delta tA
 simp -implicitDefEqProofs(maxSteps:=9^7)(disch:=first|exact Yo rfl|omega|(simp only[go_sem]<;>omega)|fail)only[go_sem]
 repeat(first|apply Ya|apply Yb|apply Yc|((first|apply Yd|apply Ye|apply Yf|apply Yg|apply Yh);simp -implicitDefEqProofs(maxSteps:=9^7)(disch:=first|exact Yo rfl|omega|(simp only[go_sem]<;>omega)|fail)only[go_sem,h,idxF_ge]<;>try with_reducible rfl)|apply Yi|apply Yj|apply Yk|apply Yl|apply Ym|apply Yn)
def widthsL : List Part → List Span
 | [] => []
 | p :: l => List.replicate p.picks.toNat p.w ++ widthsL l
def picksL : List Part → Int
 | [] => 0
 | p :: l => p.picks + picksL l
theorem widthsL_append (a b : List Part) : widthsL (a ++ b) = widthsL a ++ widthsL b := by
 induction a with
 | nil => rfl
 | cons p a ih => simp [widthsL,ih]
theorem widthsL_take {l : List Part} {i : Nat} (h : i < l.length) : widthsL (l.take (i + 1)) = widthsL (l.take i) ++ List.replicate l[i].picks.toNat l[i].w := by
 rw [List.take_succ_eq_append_getElem h,widthsL_append]; simp [widthsL]
theorem widths_length {l : List Part} (h : ∀ p ∈ l,p.Ok) : ((widthsL l).length : Int) = picksL l := by
 induction l with
 | nil => rfl
 | cons p l ih =>
  have h1 := ih fun q hq => h q (List.mem_cons_of_mem _ hq)
  have h2 := h p (by simp)
  simp only [widthsL,picksL,List.length_append,List.length_replicate]; omega
theorem picks_bound {l : List Part} (h : ∀ p ∈ l,p.Ok) : 0 ≤ picksL l ∧ picksL l ≤ 200 * l.length := by
 induction l with
 | nil => simp [picksL]
 | cons p l ih =>
  have h1 := ih fun q hq => h q (List.mem_cons_of_mem _ hq)
  have h2 := h p (by simp)
  simp only [picksL,List.length_cons]; omega
theorem widths_ok (l : List Part) (hl : l.length ≤ 12) (hok : ∀ p ∈ l,p.Ok) : lim F 122 [.list 3 (l.map Part.av)] = some (.own 2 ((widthsL l).map Span.av),[]) := by
 refine Yr (fn:=a122) (k:=1) (res:=[.tmp 2]) rfl rfl rfl (by simp -implicitDefEqProofs(maxSteps:=9^7)(disch:=first|exact Yo rfl|omega|(simp only[go_sem]<;>omega)|fail)only[go_sem]) ?_
 try delta mvA
 try delta opA
 try delta tA
 simp -implicitDefEqProofs(maxSteps:=9^7)(disch:=first|exact Yo rfl|omega|(simp only[go_sem]<;>omega)|fail)only[go_sem]
 repeat(first|apply Ya|apply Yb|apply Yc|((first|apply Yd|apply Ye|apply Yf|apply Yg|apply Yh);simp -implicitDefEqProofs(maxSteps:=9^7)(disch:=first|exact Yo rfl|omega|(simp only[go_sem]<;>omega)|fail)only[go_sem]<;>try with_reducible rfl)|apply Yi|apply Yj|apply Yk|apply Yl|apply Ym|apply Yn)
 apply Yt l.length (fun i => ⟨[(2,.slice 128 0 (widthsL (l.take i)).length),(5,.list 3 (l.map Part.av)),(6,iv l.length),(7,iv i)],[(128,.arr 2 ((widthsL (l.take i)).map Span.av))],[],10000000⟩) (fun _ => True)
 ·simp -implicitDefEqProofs(maxSteps:=9^7)(disch:=first|exact Yo rfl|omega|(simp only[go_sem]<;>omega)|fail)only[go_sem,norm_eq,Ok.some]
  rfl
 ·trivial
 intro i hi _;have hb : ((widthsL (l.take i)).length : Int) ≤ 2400 := by
  have ho : ∀ p ∈ l.take i,p.Ok := fun p hp => hok p (List.mem_of_mem_take hp)
  have := picks_bound ho;rw [widths_length ho];have : (l.take i).length ≤ 12 := by simp; omega
  omega
 by_cases h : i < l.length
 ·have ho := hok l[i] (List.getElem_mem h)
  repeat(first|apply Ya|apply Yb|apply Yc|((first|apply Yd|apply Ye|apply Yf|apply Yg|apply Yh);simp -implicitDefEqProofs(maxSteps:=9^7)(disch:=first|exact Yo rfl|omega|(simp only[go_sem]<;>omega)|fail)only[go_sem,h,List.getElem?_map,List.getElem?_eq_getElem h,Option.map_some,Int.ofNat_lt,Part.av.eq_1]<;>try with_reducible rfl)|apply Yi|apply Yj|apply Yk|apply Yl|apply Ym|apply Yn)
  apply Yt l[i].picks.toNat (fun j => ⟨[(2,.slice 128 0 ((widthsL (l.take i)).length + j)),(4,.ptr 256 0 0),(5,.list 3 (l.map Part.av)),(6,iv l.length),(7,iv i),(12,iv l[i].picks),(13,iv j)],
   [(128,.arr 2 ((widthsL (l.take i) ++ List.replicate j l[i].w).map Span.av)),(256,.box [iv l[i].picks,iv l[i].lo,iv l[i].hi])],[],10000000⟩) (fun _ => True)
  ·simp -implicitDefEqProofs(maxSteps:=9^7)(disch:=first|exact Yo rfl|omega|(simp only[go_sem]<;>omega)|fail)only[go_sem,norm_eq,Ok.some]
   simp
  ·trivial
  intro j hj _;by_cases hji : (j : Int) < l[i].picks
  ·repeat(first|apply Ya|apply Yb|apply Yc|((first|apply Yd|apply Ye|apply Yf|apply Yg|apply Yh);simp -implicitDefEqProofs(maxSteps:=9^7)(disch:=first|exact Yo rfl|omega|(simp only[go_sem]<;>omega)|fail)only[go_sem,hji]<;>try with_reducible rfl)|apply Yi|apply Yj|apply Yk|apply Yl|apply Ym|apply Yn)
   apply Ys
   ·simp -implicitDefEqProofs(maxSteps:=9^7)(disch:=first|exact Yo rfl|omega|(simp only[go_sem]<;>omega)|fail)only[go_sem,norm_eq,Ok.some]; with_reducible rfl
   refine ⟨by omega,?_,trivial⟩
   simp [List.replicate_succ',Part.w,Span.av,Nat.add_assoc]
  ·have e : l[i].picks.toNat = j := by omega
   repeat(first|apply Ya|apply Yb|apply Yc|((first|apply Yd|apply Ye|apply Yf|apply Yg|apply Yh);simp -implicitDefEqProofs(maxSteps:=9^7)(disch:=first|exact Yo rfl|omega|(simp only[go_sem]<;>omega)|fail)only[go_sem,hji]<;>try with_reducible rfl)|apply Yi|apply Yj|apply Yk|apply Yl|apply Ym|apply Yn)
   apply Ys
   ·simp -implicitDefEqProofs(maxSteps:=9^7)(disch:=first|exact Yo rfl|omega|(simp only[go_sem]<;>omega)|fail)only[go_sem,norm_eq,Ok.some]; with_reducible rfl
   refine ⟨h,?_,trivial⟩;rw [widthsL_take h,e];try simp
 ·obtain rfl : i = l.length := by omega
  repeat(first|apply Ya|apply Yb|apply Yc|((first|apply Yd|apply Ye|apply Yf|apply Yg|apply Yh);simp -implicitDefEqProofs(maxSteps:=9^7)(disch:=first|exact Yo rfl|omega|(simp only[go_sem]<;>omega)|fail)only[go_sem,Int.lt_irrefl,List.take_length]<;>try with_reducible rfl)|apply Yi|apply Yj|apply Yk|apply Yl|apply Ym|apply Yn)
def pre (l : List Span) : Nat → Span
 | 0 => ⟨0,0⟩
 | i + 1 => match l[i]? with
  | some s => (pre l i).add s
  | none => pre l i
def sumsL (l : List Span) : List Span := (List.range (l.length + 1)).map (pre l)
theorem pre_succ {l : List Span} {i : Nat} (h : i < l.length) : pre l (i + 1) = (pre l i).add l[i] := by
 simp [pre,h]
theorem sums_ok (l : List Span) (hf : ∀ i ≤ l.length,(pre l i).Fits) (hl : l.length < 1000000) : lim F 124 [.list 2 (l.map Span.av)] = some (.own 2 ((sumsL l).map Span.av),[]) := by
 refine Yr (fn:=a124) (k:=1) (res:=[.tmp 2]) rfl rfl rfl (by simp -implicitDefEqProofs(maxSteps:=9^7)(disch:=first|exact Yo rfl|omega|(simp only[go_sem]<;>omega)|fail)only[go_sem]) ?_
 try delta mvA
 try delta opA
 try delta tA
 simp -implicitDefEqProofs(maxSteps:=9^7)(disch:=first|exact Yo rfl|omega|(simp only[go_sem]<;>omega)|fail)only[go_sem]
 repeat(first|apply Ya|apply Yb|apply Yc|((first|apply Yd|apply Ye|apply Yf|apply Yg|apply Yh);simp -implicitDefEqProofs(maxSteps:=9^7)(disch:=first|exact Yo rfl|omega|(simp only[go_sem]<;>omega)|fail)only[go_sem]<;>try with_reducible rfl)|apply Yi|apply Yj|apply Yk|apply Yl|apply Ym|apply Yn)
 apply Yt l.length (fun i => ⟨[(3,.slice 192 0 (i + 1)),(8,.list 2 (l.map Span.av)),(9,iv l.length),(10,iv i)],[(192,.arr 2 (((List.range (i + 1)).map (pre l)).map Span.av))],[],10000000⟩) (fun _ => True)
 ·simp -implicitDefEqProofs(maxSteps:=9^7)(disch:=first|exact Yo rfl|omega|(simp only[go_sem]<;>omega)|fail)only[go_sem,norm_eq,Ok.some]
  simp [pre,Span.av,List.range_succ]
 ·trivial
 intro i hi _;by_cases h : i < l.length
 ·have hp := plus_ok (pre l i).lo (pre l i).hi l[i].lo l[i].hi (by have := hf (i + 1) h; rw [pre_succ h] at this; exact this)
  repeat(first|apply Ya|apply Yb|apply Yc|((first|apply Yd|apply Ye|apply Yf|apply Yg|apply Yh);simp -implicitDefEqProofs(maxSteps:=9^7)(disch:=first|exact Yo rfl|omega|(simp only[go_sem]<;>omega)|fail)only[go_sem,h,Int.ofNat_lt,List.getElem?_map,List.getElem?_eq_getElem h,List.getElem?_range (show i < i + 1 by omega),Option.map_some,Span.av.eq_1,hp]<;>try with_reducible rfl)|apply Yi|apply Yj|apply Yk|apply Yl|apply Ym|apply Yn)
  apply Ys
  ·simp -implicitDefEqProofs(maxSteps:=9^7)(disch:=first|exact Yo rfl|omega|(simp only[go_sem]<;>omega)|fail)only[go_sem,norm_eq,Ok.some]; with_reducible rfl
  refine ⟨h,?_,trivial⟩;simp [List.range_succ,pre_succ h,Span.add,Span.av]
 ·obtain rfl : i = l.length := by omega
  repeat(first|apply Ya|apply Yb|apply Yc|((first|apply Yd|apply Ye|apply Yf|apply Yg|apply Yh);simp -implicitDefEqProofs(maxSteps:=9^7)(disch:=first|exact Yo rfl|omega|(simp only[go_sem]<;>omega)|fail)only[go_sem,Int.lt_irrefl]<;>try with_reducible rfl)|apply Yi|apply Yj|apply Yk|apply Yl|apply Ym|apply Yn)
  rfl
def checkL (l : List Part) : Int :=
 if 12 < l.length then 5 else if l.length = 0 then 7 else if l.any (fun p => decide (¬ p.Ok)) then 2 else if 200 < picksL l then 8 else 0
theorem checkL_zero {l : List Part} (h : checkL l = 0) : l.length ≤ 12 ∧ (∀ p ∈ l,p.Ok) ∧ picksL l ≤ 200 := by
 unfold checkL at h;repeat' split at h
 all_goals first | (exfalso; omega) | skip
 rename_i h1 h2 h3 h4;refine ⟨by omega,fun p hp => ?_,by omega⟩
 rw [Bool.not_eq_true,List.any_eq_false] at h3;have := h3 p hp;simp only [decide_not,Bool.not_eq_true',decide_eq_false_iff_not,Classical.not_not] at this;exact this
theorem Check_ok (l : List Part) : lim F 121 [.list 3 (l.map Part.av)] = some (iv (checkL l),[]) := by
 unfold checkL;by_cases h1 : 12 < l.length
 ·refine Yr (fn:=a121) (k:=1) (res:=[.tmp 2]) rfl rfl rfl (by simp -implicitDefEqProofs(maxSteps:=9^7)(disch:=first|exact Yo rfl|omega|(simp only[go_sem]<;>omega)|fail)only[go_sem]) ?_
  try delta mvA
  try delta opA
  try delta tA
  simp -implicitDefEqProofs(maxSteps:=9^7)(disch:=first|exact Yo rfl|omega|(simp only[go_sem]<;>omega)|fail)only[go_sem]
  repeat(first|apply Ya|apply Yb|apply Yc|((first|apply Yd|apply Ye|apply Yf|apply Yg|apply Yh);simp -implicitDefEqProofs(maxSteps:=9^7)(disch:=first|exact Yo rfl|omega|(simp only[go_sem]<;>omega)|fail)only[go_sem,h1,show (12 : Int) < l.length by omega]<;>try with_reducible rfl)|apply Yi|apply Yj|apply Yk|apply Yl|apply Ym|apply Yn)
 ·by_cases h2 : l.length = 0
  ·refine Yr (fn:=a121) (k:=1) (res:=[.tmp 2]) rfl rfl rfl (by simp -implicitDefEqProofs(maxSteps:=9^7)(disch:=first|exact Yo rfl|omega|(simp only[go_sem]<;>omega)|fail)only[go_sem]) ?_
   try delta mvA
   try delta opA
   try delta tA
   simp -implicitDefEqProofs(maxSteps:=9^7)(disch:=first|exact Yo rfl|omega|(simp only[go_sem]<;>omega)|fail)only[go_sem]
   repeat(first|apply Ya|apply Yb|apply Yc|((first|apply Yd|apply Ye|apply Yf|apply Yg|apply Yh);simp -implicitDefEqProofs(maxSteps:=9^7)(disch:=first|exact Yo rfl|omega|(simp only[go_sem]<;>omega)|fail)only[go_sem,h1,show ¬ (12 : Int) < l.length by omega,show (l.length : Int) = 0 by omega]<;>try with_reducible rfl)|apply Yi|apply Yj|apply Yk|apply Yl|apply Ym|apply Yn)
   rw [if_pos h2]
  ·have hc := contains_parts l (fun p => decide (¬ p.Ok)) 167 (by omega) fun p _ => check1_ok p
   cases h3 : l.any (fun p => decide (¬ p.Ok)) with
   | true =>
    rw [h3] at hc;refine Yr (fn:=a121) (k:=1) (res:=[.tmp 2]) rfl rfl rfl (by simp -implicitDefEqProofs(maxSteps:=9^7)(disch:=first|exact Yo rfl|omega|(simp only[go_sem]<;>omega)|fail)only[go_sem]) ?_
    try delta mvA
    try delta opA
    try delta tA
    simp -implicitDefEqProofs(maxSteps:=9^7)(disch:=first|exact Yo rfl|omega|(simp only[go_sem]<;>omega)|fail)only[go_sem]
    repeat(first|apply Ya|apply Yb|apply Yc|((first|apply Yd|apply Ye|apply Yf|apply Yg|apply Yh);simp -implicitDefEqProofs(maxSteps:=9^7)(disch:=first|exact Yo rfl|omega|(simp only[go_sem]<;>omega)|fail)only[go_sem,h1,h2,show ¬ (12 : Int) < l.length by omega,show ¬ (l.length : Int) = 0 by omega,hc]<;>try with_reducible rfl)|apply Yi|apply Yj|apply Yk|apply Yl|apply Ym|apply Yn)
   | false =>
    rw [h3] at hc;have hok : ∀ p ∈ l,p.Ok := by
     rw [List.any_eq_false] at h3;intro p hp;have := h3 p hp;simp only [decide_not,Bool.not_eq_true',decide_eq_false_iff_not,Classical.not_not] at this;exact this
    have hw := widths_ok l (by omega) hok
    have hn := widths_length hok;by_cases h4 : 200 < picksL l
    all_goals
     refine Yr (fn:=a121) (k:=1) (res:=[.tmp 2]) rfl rfl rfl (by simp -implicitDefEqProofs(maxSteps:=9^7)(disch:=first|exact Yo rfl|omega|(simp only[go_sem]<;>omega)|fail)only[go_sem]) ?_
     try delta mvA
     try delta opA
     try delta tA
     simp -implicitDefEqProofs(maxSteps:=9^7)(disch:=first|exact Yo rfl|omega|(simp only[go_sem]<;>omega)|fail)only[go_sem]
     repeat(first|apply Ya|apply Yb|apply Yc|((first|apply Yd|apply Ye|apply Yf|apply Yg|apply Yh);simp -implicitDefEqProofs(maxSteps:=9^7)(disch:=first|exact Yo rfl|omega|(simp only[go_sem]<;>omega)|fail)only[go_sem,h1,h2,show ¬ (12 : Int) < l.length by omega,show ¬ (l.length : Int) = 0 by omega,hc,hw,hn,h4,Bool.false_eq_true]<;>try with_reducible rfl)|apply Yi|apply Yj|apply Yk|apply Yl|apply Ym|apply Yn)
end Go.Abs.Seam
set_option linter.all false
namespace Go.Abs.Seam
set_option maxRecDepth 10000
set_option maxHeartbeats 1000000
def Small (m : List Span) : Prop := m.length ≤ 200 ∧ ∀ s ∈ m,-20000 ≤ s.lo ∧ s.lo ≤ 20000 ∧ -20000 ≤ s.hi ∧ s.hi ≤ 20000
theorem Small.sub {m k : List Span} (h : Small m) (hs : k.Sublist m) : Small k := ⟨Nat.le_trans hs.length_le h.1,fun s hs' => h.2 s (hs.subset hs')⟩
theorem Small.pre {m : List Span} (h : Small m) : ∀ (i : Nat),i ≤ m.length → -20000 * i ≤ (pre m i).lo ∧ (pre m i).lo ≤ 20000 * i ∧ -20000 * i ≤ (pre m i).hi ∧ (pre m i).hi ≤ 20000 * i
 | 0,_ => by simp [Go.Abs.Seam.pre]
 | i + 1,hi => by
  have ih := h.pre i (by omega)
  have h1 := h.2 m[i] (List.getElem_mem (by omega))
  rw [pre_succ (by omega : i < m.length)]
  simp only [Span.add];omega
theorem Small.fits {m : List Span} (h : Small m) (i : Nat) (hi : i ≤ m.length) : (Go.Abs.Seam.pre m i).Fits := by
 have := h.pre i hi;have := h.1;unfold Span.Fits;omega
theorem sums_small (m : List Span) (h : Small m) : lim F 124 [.list 2 (m.map Span.av)] = some (.own 2 ((sumsL m).map Span.av),[]) :=
 sums_ok m (fun i hi => h.fits i hi) (by have := h.1; omega)
theorem end_ok (a b : AV) (m : List Span) (from' : Nat) (h : Small m) (hf : from' ≤ m.length) (ha : ∃ s l,a = .list s l) (hb : ∃ s l,b = .list s l) :
  lim F 66 [.agg [a,b,.list 2 (m.map Span.av)],iv from'] = some (.own 2 ((sumsL (m.drop from')).map Span.av),[]) := by
 obtain ⟨s1,l1,rfl⟩ := ha;obtain ⟨s2,l2,rfl⟩ := hb;have hs := sums_small (m.drop from') (h.sub (List.drop_sublist _ _))
 have e : List.take (((m.length : Int) - from').toNat) (List.drop from' (m.map Span.av)) = (m.drop from').map Span.av := by
  rw [List.map_drop,List.take_of_length_le]; simp
 refine Yr (fn:=a66) (k:=2) (res:=[.tmp 4]) rfl rfl rfl (by simp -implicitDefEqProofs(maxSteps:=9^7)(disch:=first|exact Yo rfl|omega|(simp only[go_sem]<;>omega)|fail)only[go_sem]) ?_
 try delta mvA
 try delta opA
 try delta tA
 simp -implicitDefEqProofs(maxSteps:=9^7)(disch:=first|exact Yo rfl|omega|(simp only[go_sem]<;>omega)|fail)only[go_sem]
 repeat(first|apply Ya|apply Yb|apply Yc|((first|apply Yd|apply Ye|apply Yf|apply Yg|apply Yh);simp -implicitDefEqProofs(maxSteps:=9^7)(disch:=first|exact Yo rfl|omega|(simp only[go_sem]<;>omega)|fail)only[go_sem,hs,e]<;>try with_reducible rfl)|apply Yi|apply Yj|apply Yk|apply Yl|apply Ym|apply Yn)
def strE (m : List Span) (k : Nat) : Span := ⟨max (pre m k).lo (0 - ((pre m m.length).hi - (pre m k).hi)),min (pre m k).hi (0 - ((pre m m.length).lo - (pre m k).lo))⟩
def strL (m : List Span) : List Span := (List.range (m.length + 1)).map (strE m)
theorem map_range_set {α : Type} {n i : Nat} (f : Nat → α) (x : α) : ((List.range n).map f).set i x = (List.range n).map fun j => if j = i then x else f j := by
 apply List.ext_getElem (by simp)
 intro j h1 h2;simp only [List.getElem_set,List.getElem_map,List.getElem_range];by_cases e : i = j
 ·simp [e]
 ·rw [if_neg e,if_neg (fun h => e h.symm)]
def Span.Has0 (s : Span) : Prop := s.lo ≤ 0 ∧ 0 ≤ s.hi
instance (s : Span) : Decidable s.Has0 := by unfold Span.Has0; infer_instance
theorem stretch_ok (a b : AV) (m : List Span) (p q : Nat) (h : Small m) (hp : p ≤ q) (hq : q ≤ m.length) (ha : ∃ s l,a = .list s l) (hb : ∃ s l,b = .list s l) :
  lim F 67 [.agg [a,b,.list 2 (m.map Span.av)],iv p,iv q] = some (.tuple [.own 2 ((strL ((m.drop p).take (q - p))).map Span.av),.bool (decide (pre ((m.drop p).take (q - p)) (q - p)).Has0)],[]) := by
 obtain ⟨s1,l1,rfl⟩ := ha;obtain ⟨s2,l2,rfl⟩ := hb;have hsm := h.sub ((List.take_sublist (q - p) _).trans (List.drop_sublist p m));have e : List.take (((q : Int) - p).toNat) (List.drop p (m.map Span.av)) = ((m.drop p).take (q - p)).map Span.av := by
  rw [List.map_take,List.map_drop]; congr 1; omega
 have hlen : ((m.drop p).take (q - p)).length = q - p := by simp; omega
 generalize ((m.drop p).take (q - p)) = k at *;rw [← hlen];have hs := sums_small k hsm;have hl := hsm.1;have hlast : (sumsL k)[k.length]? = some (pre k k.length) := by simp [sumsL]
 have hh := has_ok (pre k k.length).lo (pre k k.length).hi 0;have hall := hsm.pre k.length (Nat.le_refl _);have hsl : (sumsL k).length = k.length + 1 := by simp [sumsL]
 refine Yr (fn:=a67) (k:=3) (res:=[.tmp 6,.tmp 7]) rfl rfl rfl (by simp -implicitDefEqProofs(maxSteps:=9^7)(disch:=first|exact Yo rfl|omega|(simp only[go_sem]<;>omega)|fail)only[go_sem]) ?_
 try delta mvA
 try delta opA
 try delta tA
 simp -implicitDefEqProofs(maxSteps:=9^7)(disch:=first|exact Yo rfl|omega|(simp only[go_sem]<;>omega)|fail)only[go_sem]
 repeat(first|apply Ya|apply Yb|apply Yc|((first|apply Yd|apply Ye|apply Yf|apply Yg|apply Yh);simp -implicitDefEqProofs(maxSteps:=9^7)(disch:=first|exact Yo rfl|omega|(simp only[go_sem]<;>omega)|fail)only[go_sem,hs,e,hsl,show ((((k.length + 1 : Nat) : Int)) - 1).toNat = k.length by omega,List.getElem?_map,hlast,Option.map_some,Span.av.eq_1]<;>try with_reducible rfl)|apply Yi|apply Yj|apply Yk|apply Yl|apply Ym|apply Yn)
 apply Yt (k.length + 1) (fun i => ⟨[(6,.slice 384 0 (k.length + 1)),(8,.ptr 512 0 0),(24,.slice 384 0 (k.length + 1)),(25,iv (k.length + 1 : Nat)),(26,iv i)],
  [(384,.arr 2 (((List.range (k.length + 1)).map fun j => if j < i then strE k j else pre k j).map Span.av)),(512,.box [iv (pre k k.length).lo,iv (pre k k.length).hi])],[],10000000⟩) (fun _ => True)
 ·simp -implicitDefEqProofs(maxSteps:=9^7)(disch:=first|exact Yo rfl|omega|(simp only[go_sem]<;>omega)|fail)only[go_sem,norm_eq,Ok.some]
  simp [sumsL]
 ·trivial
 intro i hi _;by_cases h : i < k.length + 1
 ·have hi' := hsm.pre i (by omega)
  have hg : ((List.range (k.length + 1)).map fun j => if j < i then strE k j else pre k j)[i]? = some (pre k i) := by
   simp [h]
  have hm := minus_ok 0 0 ((pre k k.length).lo - (pre k i).lo) ((pre k k.length).hi - (pre k i).hi) (by unfold Span.Fits; simp only; omega)
  have hb := both_ok (pre k i).lo (pre k i).hi (0 - ((pre k k.length).hi - (pre k i).hi)) (0 - ((pre k k.length).lo - (pre k i).lo));repeat(first|apply Ya|apply Yb|apply Yc|((first|apply Yd|apply Ye|apply Yf|apply Yg|apply Yh);simp -implicitDefEqProofs(maxSteps:=9^7)(disch:=first|exact Yo rfl|omega|(simp only[go_sem]<;>omega)|fail)only[go_sem,h,Int.ofNat_lt,List.getElem?_map,hg,Option.map_some,Span.av.eq_1,hm,hb]<;>try with_reducible rfl)|apply Yi|apply Yj|apply Yk|apply Yl|apply Ym|apply Yn)
  apply Ys
  ·simp -implicitDefEqProofs(maxSteps:=9^7)(disch:=first|exact Yo rfl|omega|(simp only[go_sem]<;>omega)|fail)only[go_sem,norm_eq,Ok.some]; with_reducible rfl
  refine ⟨h,?_,trivial⟩;have e2 := map_range_set (n := k.length + 1) (i := i) (fun j => if j < i then strE k j else pre k j) (strE k i)
  have e3 : (AV.agg [AV.int .i64 (max (pre k i).lo (0 - ((pre k k.length).hi - (pre k i).hi))),AV.int .i64 (min (pre k i).hi (0 - ((pre k k.length).lo - (pre k i).lo)))]) = Span.av (strE k i) := rfl;rw [e3,← List.map_set,e2];simp only [Fr.mk.injEq,List.cons.injEq,Prod.mk.injEq,Row.arr.injEq,true_and,and_true,AV.int.injEq];refine ⟨by omega,congrArg _ (List.map_congr_left fun j hj => ?_)⟩
  by_cases h1 : j = i
  ·subst h1; simp
  ·by_cases h2 : j < i
   ·simp [h1,h2,show j < i + 1 by omega]
   ·simp [h1,h2,show ¬ j < i + 1 by omega]
 ·obtain rfl : i = k.length + 1 := by omega
  repeat(first|apply Ya|apply Yb|apply Yc|((first|apply Yd|apply Ye|apply Yf|apply Yg|apply Yh);simp -implicitDefEqProofs(maxSteps:=9^7)(disch:=first|exact Yo rfl|omega|(simp only[go_sem]<;>omega)|fail)only[go_sem,Int.lt_irrefl,hh]<;>try with_reducible rfl)|apply Yi|apply Yj|apply Yk|apply Yl|apply Ym|apply Yn)
  simp only [Option.some.injEq,Prod.mk.injEq,AV.tuple.injEq,List.cons.injEq,AV.own.injEq,true_and,and_true];refine ⟨congrArg _ (List.map_congr_left fun j hj => ?_),rfl⟩
  rw [if_pos (List.mem_range.1 hj)]
def seg (m : List Span) (p q : Nat) : List Span := (m.drop p).take (q - p)
theorem seg_length {m : List Span} {p q : Nat} (hp : p ≤ q) (hq : q ≤ m.length) : (seg m p q).length = q - p := by simp [seg]; omega
def aheadGo (m : List Span) (f : Nat) : List Int → Option (List Span)
 | [] => some (sumsL (m.drop f))
 | t :: ts => if (pre (seg m f t.toNat) (t.toNat - f)).Has0 then (aheadGo m t.toNat ts).map ((strL (seg m f t.toNat)).take (t.toNat - f) ++ ·) else none
def Up (n : Nat) : Int → List Int → Prop
 | _,[] => True
 | f,t :: ts => f < t ∧ t ≤ n ∧ Up n t ts
theorem pairAhead_ok (a b : AV) (m : List Span) (ts : List Int) (h : Small m) (hu : Up m.length 0 ts) (ha : ∃ s l,a = .list s l) (hb : ∃ s l,b = .list s l) (hts : ts.length ≤ 1000) :
  lim F 119 [.agg [a,b,.list 2 (m.map Span.av)],.list 1 (ts.map fun n => iv n)] = some (.tuple [.own 2 (((aheadGo m 0 ts).getD []).map Span.av),.bool (aheadGo m 0 ts).isSome],[]) := by
 obtain ⟨s1,l1,rfl⟩ := ha;obtain ⟨s2,l2,rfl⟩ := hb;have hml := h.1;refine Yr (fn:=a119) (k:=2) (res:=[.tmp 4,.tmp 5]) rfl rfl rfl (by simp -implicitDefEqProofs(maxSteps:=9^7)(disch:=first|exact Yo rfl|omega|(simp only[go_sem]<;>omega)|fail)only[go_sem]) ?_
 try delta mvA
 try delta opA
 try delta tA
 simp -implicitDefEqProofs(maxSteps:=9^7)(disch:=first|exact Yo rfl|omega|(simp only[go_sem]<;>omega)|fail)only[go_sem]
 repeat(first|apply Ya|apply Yb|apply Yc|((first|apply Yd|apply Ye|apply Yf|apply Yg|apply Yh);simp -implicitDefEqProofs(maxSteps:=9^7)(disch:=first|exact Yo rfl|omega|(simp only[go_sem]<;>omega)|fail)only[go_sem]<;>try with_reducible rfl)|apply Yi|apply Yj|apply Yk|apply Yl|apply Ym|apply Yn)
 apply Yu ts.length (fun i fr => ∃ (acc : List Span) (f : Nat),fr = ⟨[(2,.ptr 128 0 0),(4,.slice 256 0 acc.length),(6,iv f),(11,.list 1 (ts.map fun n => iv n)),(12,iv ts.length),(13,iv i)],
  [(128,.box [.list s1 l1,.list s2 l2,.list 2 (m.map Span.av)]),(256,.arr 2 (acc.map Span.av))],[],10000000⟩ ∧ f ≤ m.length ∧ acc.length = f ∧ Up m.length f (ts.drop i) ∧ aheadGo m 0 ts = (aheadGo m f (ts.drop i)).map (acc ++ ·))
 ·simp -implicitDefEqProofs(maxSteps:=9^7)(disch:=first|exact Yo rfl|omega|(simp only[go_sem]<;>omega)|fail)only[go_sem,norm_eq,Ok.some]
  exact ⟨[],0,rfl,by omega,rfl,hu,by simp⟩
 rintro i fr hi ⟨acc,f,rfl,hf,hacc,hup,hgo⟩;by_cases h : i < ts.length
 ·rw [List.drop_eq_getElem_cons h] at hup hgo
  obtain ⟨u1,u2,u3⟩ := hup;have hst := stretch_ok (.list s1 l1) (.list s2 l2) m f ts[i].toNat ‹_› (by omega) (by omega) ⟨_,_,rfl⟩ ⟨_,_,rfl⟩
  rw [Int.toNat_of_nonneg (by omega : 0 ≤ ts[i])] at hst
  have hsl : (strL (seg m f ts[i].toNat)).length = ts[i].toNat - f + 1 := by simp [strL,seg_length (m := m) (p := f) (q := ts[i].toNat) (by omega) (by omega)]
  change lim F 67 _ = some (.tuple [.own 2 ((strL (seg m f ts[i].toNat)).map Span.av),.bool (decide (pre (seg m f ts[i].toNat) (ts[i].toNat - f)).Has0)],[]) at hst;by_cases hz : (pre (seg m f ts[i].toNat) (ts[i].toNat - f)).Has0
  ·have hlt : acc.length + (ts[i].toNat - f) ≤ 200 := by omega
   repeat(first|apply Ya|apply Yb|apply Yc|((first|apply Yd|apply Ye|apply Yf|apply Yg|apply Yh);simp -implicitDefEqProofs(maxSteps:=9^7)(disch:=first|exact Yo rfl|omega|(simp only[go_sem]<;>omega)|fail)only[go_sem,h,Int.ofNat_lt,List.getElem?_map,List.getElem?_eq_getElem h,Option.map_some,hst,hz,hsl,show ((((ts[i].toNat - f + 1 : Nat) : Int)) - 1 - 0).toNat = ts[i].toNat - f by omega]<;>try with_reducible rfl)|apply Yi|apply Yj|apply Yk|apply Yl|apply Ym|apply Yn)
   apply Ys
   ·simp -implicitDefEqProofs(maxSteps:=9^7)(disch:=first|exact Yo rfl|omega|(simp only[go_sem]<;>omega)|fail)only[go_sem,norm_eq,Ok.some]; with_reducible rfl
   refine ⟨h,acc ++ (strL (seg m f ts[i].toNat)).take (ts[i].toNat - f),ts[i].toNat,?_,by omega,?_,?_,?_⟩
   ·simp [Int.toNat_of_nonneg (by omega : 0 ≤ ts[i]),List.map_take]; try omega
   ·simp [hsl]; omega
   ·rw [Int.toNat_of_nonneg (by omega : 0 ≤ ts[i])]; exact u3
   ·rw [hgo]
    simp only [aheadGo,hz,if_true,Option.map_map]
    congr 1
    funext x; simp
  ·repeat(first|apply Ya|apply Yb|apply Yc|((first|apply Yd|apply Ye|apply Yf|apply Yg|apply Yh);simp -implicitDefEqProofs(maxSteps:=9^7)(disch:=first|exact Yo rfl|omega|(simp only[go_sem]<;>omega)|fail)only[go_sem,h,Int.ofNat_lt,List.getElem?_map,List.getElem?_eq_getElem h,Option.map_some,hst,hz]<;>try with_reducible rfl)|apply Yi|apply Yj|apply Yk|apply Yl|apply Ym|apply Yn)
   rw [hgo];simp [aheadGo,hz]
 ·obtain rfl : i = ts.length := by omega
  have he := end_ok (.list s1 l1) (.list s2 l2) m f ‹_› hf ⟨_,_,rfl⟩ ⟨_,_,rfl⟩
  have hel : (sumsL (m.drop f)).length = m.length - f + 1 := by simp [sumsL]
  repeat(first|apply Ya|apply Yb|apply Yc|((first|apply Yd|apply Ye|apply Yf|apply Yg|apply Yh);simp -implicitDefEqProofs(maxSteps:=9^7)(disch:=first|exact Yo rfl|omega|(simp only[go_sem]<;>omega)|fail)only[go_sem,Int.lt_irrefl,he,hel]<;>try with_reducible rfl)|apply Yi|apply Yj|apply Yk|apply Yl|apply Ym|apply Yn)
  rw [hgo];simp [aheadGo,List.drop_length];rw [List.take_of_length_le (by simp [hel])]
end Go.Abs.Seam
set_option linter.all false
namespace Go.Abs.Seam
set_option maxRecDepth 10000
set_option maxHeartbeats 4000000
@[go_sem] theorem cast0 : ((0 : Nat) : Int) = 0 := id rfl
@[go_sem] theorem cast1 : ((1 : Nat) : Int) = 1 := id rfl
@[go_sem] theorem cast2 : ((2 : Nat) : Int) = 2 := id rfl
def Span.sub (a b : Span) : Span := ⟨a.lo - b.hi,a.hi - b.lo⟩
def moreL (wa wb : List Span) : List Span := List.zipWith Span.sub wa wb
theorem widths_mem {l : List Part} (hok : ∀ p ∈ l,p.Ok) : ∀ s ∈ widthsL l,1 ≤ s.lo ∧ s.lo ≤ s.hi ∧ s.hi ≤ 10000 := by
 induction l with
 | nil => simp [widthsL]
 | cons p l ih =>
  intro s hs;simp only [widthsL,List.mem_append,List.mem_replicate] at hs;rcases hs with ⟨_,rfl⟩ | hs
  ·have := hok p (by simp); simp only [Part.w]; omega
  ·exact ih (fun q hq => hok q (List.mem_cons_of_mem _ hq)) s hs
theorem more_small {a b : List Part} (ha : checkL a = 0) (hb : checkL b = 0) : Small (moreL (widthsL a) (widthsL b)) := by
 obtain ⟨a1,a2,a3⟩ := checkL_zero ha;obtain ⟨b1,b2,b3⟩ := checkL_zero hb;have la := widths_length a2;have ma := widths_mem a2;have mb := widths_mem b2;refine ⟨by simp [moreL]; omega,fun s hs => ?_⟩
 obtain ⟨i,hi,rfl⟩ := List.getElem_of_mem hs;simp only [moreL,List.getElem_zipWith];simp only [moreL,List.length_zipWith] at hi;have h1 := ma (widthsL a)[i] (List.getElem_mem (by omega))
 have h2 := mb (widthsL b)[i] (List.getElem_mem (by omega))
 simp only [Span.sub];omega
structure PairL where
 a : List Span
 b : List Span
 more : List Span
 e : Int
def pairL (a b : List Part) : PairL :=
 if checkL a ≠ 0 then ⟨[],[],[],checkL a⟩ else if checkL b ≠ 0 then ⟨[],[],[],checkL b⟩
 else if picksL a ≠ picksL b then ⟨widthsL a,widthsL b,[],4⟩ else ⟨widthsL a,widthsL b,moreL (widthsL a) (widthsL b),0⟩
def PairL.av (p : PairL) : AV := .agg [.own 2 (p.a.map Span.av),.own 2 (p.b.map Span.av),.own 2 (p.more.map Span.av)]
theorem newPair_ok (a b : List Part) : lim F 65 [.list 3 (a.map Part.av),.list 3 (b.map Part.av)] = some (.tuple [(pairL a b).av,iv (pairL a b).e],[]) := by
 have ca := Check_ok a;have cb := Check_ok b;refine Yr (fn:=a65) (k:=2) (res:=[.cell 4 3 true,.tmp 5]) rfl rfl rfl (by simp -implicitDefEqProofs(maxSteps:=9^7)(disch:=first|exact Yo rfl|omega|(simp only[go_sem]<;>omega)|fail)only[go_sem]) ?_
 try delta mvA
 try delta opA
 try delta tA
 simp -implicitDefEqProofs(maxSteps:=9^7)(disch:=first|exact Yo rfl|omega|(simp only[go_sem]<;>omega)|fail)only[go_sem]
 repeat(first|apply Ya|apply Yb|apply Yc|((first|apply Yd|apply Ye|apply Yf|apply Yg|apply Yh);simp -implicitDefEqProofs(maxSteps:=9^7)(disch:=first|exact Yo rfl|omega|(simp only[go_sem]<;>omega)|fail)only[go_sem]<;>try with_reducible rfl)|apply Yi|apply Yj|apply Yk|apply Yl|apply Ym|apply Yn)
 apply Yt 2 (fun i => ⟨[(0,.list 3 (a.map Part.av)),(1,.list 3 (b.map Part.av)),(4,.ptr 256 0 0),(13,.agg [.list 3 (a.map Part.av),.list 3 (b.map Part.av)]),(14,iv i)],
  [(256,.box [.slice 304096 0 0,.slice 304097 0 0,.slice 304098 0 0]),(304096,.arr 2 []),(304097,.arr 2 []),(304098,.arr 2 [])],[],10000000⟩) (fun i => (1 ≤ i → checkL a = 0) ∧ (2 ≤ i → checkL b = 0))
 ·simp -implicitDefEqProofs(maxSteps:=9^7)(disch:=first|exact Yo rfl|omega|(simp only[go_sem]<;>omega)|fail)only[go_sem,norm_eq,Ok.some]
 ·exact ⟨by omega,by omega⟩
 intro i hi hp;obtain rfl | rfl | rfl : i = 0 ∨ i = 1 ∨ i = 2 := by omega
 ·by_cases h1 : checkL a = 0
  ·rw [h1] at ca
   repeat(first|apply Ya|apply Yb|apply Yc|((first|apply Yd|apply Ye|apply Yf|apply Yg|apply Yh);simp -implicitDefEqProofs(maxSteps:=9^7)(disch:=first|exact Yo rfl|omega|(simp only[go_sem]<;>omega)|fail)only[go_sem,ca]<;>try with_reducible rfl)|apply Yi|apply Yj|apply Yk|apply Yl|apply Ym|apply Yn)
   apply Ys
   ·simp -implicitDefEqProofs(maxSteps:=9^7)(disch:=first|exact Yo rfl|omega|(simp only[go_sem]<;>omega)|fail)only[go_sem,norm_eq,Ok.some]; with_reducible rfl
   exact ⟨by omega,rfl,fun _ => h1,by omega⟩
  ·repeat(first|apply Ya|apply Yb|apply Yc|((first|apply Yd|apply Ye|apply Yf|apply Yg|apply Yh);simp -implicitDefEqProofs(maxSteps:=9^7)(disch:=first|exact Yo rfl|omega|(simp only[go_sem]<;>omega)|fail)only[go_sem,ca,h1]<;>try with_reducible rfl)|apply Yi|apply Yj|apply Yk|apply Yl|apply Ym|apply Yn)
   simp [pairL,h1,PairL.av]
 ·have h1 := hp.1 (by omega)
  by_cases h2 : checkL b = 0
  ·rw [h2] at cb
   repeat(first|apply Ya|apply Yb|apply Yc|((first|apply Yd|apply Ye|apply Yf|apply Yg|apply Yh);simp -implicitDefEqProofs(maxSteps:=9^7)(disch:=first|exact Yo rfl|omega|(simp only[go_sem]<;>omega)|fail)only[go_sem,cb]<;>try with_reducible rfl)|apply Yi|apply Yj|apply Yk|apply Yl|apply Ym|apply Yn)
   apply Ys
   ·simp -implicitDefEqProofs(maxSteps:=9^7)(disch:=first|exact Yo rfl|omega|(simp only[go_sem]<;>omega)|fail)only[go_sem,norm_eq,Ok.some]; with_reducible rfl
   exact ⟨by omega,rfl,fun _ => h1,fun _ => h2⟩
  ·repeat(first|apply Ya|apply Yb|apply Yc|((first|apply Yd|apply Ye|apply Yf|apply Yg|apply Yh);simp -implicitDefEqProofs(maxSteps:=9^7)(disch:=first|exact Yo rfl|omega|(simp only[go_sem]<;>omega)|fail)only[go_sem,cb,h2]<;>try with_reducible rfl)|apply Yi|apply Yj|apply Yk|apply Yl|apply Ym|apply Yn)
   simp [pairL,h1,h2,PairL.av]
 ·have h1 := hp.1 (by omega)
  have h2 := hp.2 (by omega)
  obtain ⟨a1,a2,a3⟩ := checkL_zero h1;obtain ⟨b1,b2,b3⟩ := checkL_zero h2;have wa := widths_ok a a1 a2;have wb := widths_ok b b1 b2;have la := widths_length a2;have lb := widths_length b2;by_cases h3 : picksL a = picksL b
  ·have ll : (widthsL a).length = (widthsL b).length := by omega
   have ma := widths_mem a2;have mb := widths_mem b2;have hlen : (widthsL b).length ≤ 200 := by omega
   have hpl : pairL a b = ⟨widthsL a,widthsL b,moreL (widthsL a) (widthsL b),0⟩ := by simp [pairL,h1,h2,h3]
   rw [hpl];clear hpl ca cb la lb a1 a2 a3 b1 b2 b3 h1 h2 h3 hp hi;generalize widthsL a = va at *;generalize widthsL b = vb at *;have hml : (moreL va vb).length = vb.length := by simp [moreL]; omega
   generalize hmo : moreL va vb = mo at *;repeat(first|apply Ya|apply Yb|apply Yc|((first|apply Yd|apply Ye|apply Yf|apply Yg|apply Yh);simp -implicitDefEqProofs(maxSteps:=9^7)(disch:=first|exact Yo rfl|omega|(simp only[go_sem]<;>omega)|fail)only[go_sem,wa,wb,ll]<;>try with_reducible rfl)|apply Yi|apply Yj|apply Yk|apply Yl|apply Ym|apply Yn)
   apply Yt vb.length (fun i => ⟨[(4,.ptr 256 0 0),(39,.slice 2496 0 vb.length),(40,iv vb.length),(41,iv i)],
    [(256,.box [.slice 2496 0 vb.length,.slice 304097 0 vb.length,.slice 304098 0 i]),(2496,.arr 2 (va.map Span.av)),(304097,.arr 2 (vb.map Span.av)),(304098,.arr 2 ((mo.take i).map Span.av))],[],10000000⟩) (fun _ => True)
   ·simp -implicitDefEqProofs(maxSteps:=9^7)(disch:=first|exact Yo rfl|omega|(simp only[go_sem]<;>omega)|fail)only[go_sem,norm_eq,Ok.some]
   ·trivial
   intro i hi _;by_cases h : i < vb.length
   ·have ha : i < va.length := by omega
    have g1 := ma va[i] (List.getElem_mem ha);have g2 := mb vb[i] (List.getElem_mem h);have hm := minus_ok va[i].lo va[i].hi vb[i].lo vb[i].hi (by unfold Span.Fits; simp only; omega)
    have hlt : i = ((mo.take i).map Span.av).length := by simp; omega
    clear wa wb ma mb;repeat(first|apply Ya|apply Yb|apply Yc|((first|apply Yd|apply Ye|apply Yf|apply Yg|apply Yh);simp -implicitDefEqProofs(maxSteps:=9^7)(disch:=first|exact Yo rfl|omega|(simp only[go_sem]<;>omega)|fail)only[go_sem,h,Int.ofNat_lt,List.getElem?_map,List.getElem?_eq_getElem h,List.getElem?_eq_getElem ha,Option.map_some,Span.av.eq_1,hm,apR_whole _ _ _ _ _ _ _ hlt]<;>try with_reducible rfl)|apply Yi|apply Yj|apply Yk|apply Yl|apply Ym|apply Yn)
    apply Ys
    ·simp -implicitDefEqProofs(maxSteps:=9^7)(disch:=first|exact Yo rfl|omega|(simp only[go_sem]<;>omega)|fail)only[go_sem,norm_eq,Ok.some]; with_reducible rfl
    refine ⟨h,?_,trivial⟩;subst hmo;rw [List.take_succ_eq_append_getElem (by omega : i < (moreL va vb).length)]
    simp [moreL,Span.sub,Span.av]
   ·obtain rfl : i = vb.length := by omega
    repeat(first|apply Ya|apply Yb|apply Yc|((first|apply Yd|apply Ye|apply Yf|apply Yg|apply Yh);simp -implicitDefEqProofs(maxSteps:=9^7)(disch:=first|exact Yo rfl|omega|(simp only[go_sem]<;>omega)|fail)only[go_sem,Int.lt_irrefl,List.take_of_length_le (Nat.le_of_eq hml),hml,ll]<;>try with_reducible rfl)|apply Yi|apply Yj|apply Yk|apply Yl|apply Ym|apply Yn)
    simp [PairL.av]
  ·repeat(first|apply Ya|apply Yb|apply Yc|((first|apply Yd|apply Ye|apply Yf|apply Yg|apply Yh);simp -implicitDefEqProofs(maxSteps:=9^7)(disch:=first|exact Yo rfl|omega|(simp only[go_sem]<;>omega)|fail)only[go_sem,wa,wb,la,lb,h3]<;>try with_reducible rfl)|apply Yi|apply Yj|apply Yk|apply Yl|apply Ym|apply Yn)
   simp [pairL,h1,h2,h3,PairL.av]
end Go.Abs.Seam
set_option linter.all false
namespace Go.Abs.Seam
set_option maxRecDepth 10000
set_option maxHeartbeats 4000000
def incL : List Int → Bool
 | a :: b :: r => decide (a < b) && incL (b :: r)
 | _ => true
theorem incL_iff : ∀ {ts : List Int},incL ts = true ↔ ∀ i (h : i + 1 < ts.length),ts[i] < ts[i + 1]
 | [] => by simp [incL]
 | [a] => by simp [incL]
 | a :: b :: r => by
  have ih := incL_iff (ts := b :: r);simp only [incL,Bool.and_eq_true,decide_eq_true_eq,ih];constructor
  ·rintro ⟨h1,h2⟩ i hi
   cases i with
   | zero => exact h1
   | succ i => exact h2 i (by simp at hi ⊢; omega)
  ·intro h
   exact ⟨h 0 (by simp),fun i hi => h (i + 1) (by simp at hi ⊢; omega)⟩
theorem up_of {n : Nat} : ∀ {ts : List Int} {f : Int},(∀ t ∈ ts,f < t ∧ t ≤ n) → incL ts = true → Up n f ts
 | [],_,_,_ => trivial
 | [a],f,h,_ => ⟨(h a (by simp)).1,(h a (by simp)).2,trivial⟩
 | a :: b :: r,f,h,hi => by
  simp only [incL,Bool.and_eq_true,decide_eq_true_eq] at hi;refine ⟨(h a (by simp)).1,(h a (by simp)).2,up_of (fun t ht => ⟨?_,(h t (List.mem_cons_of_mem _ ht)).2⟩) hi.2⟩
  have key : ∀ (l : List Int) (x : Int),incL (x :: l) = true → ∀ t ∈ l,x < t := by
   intro l;induction l with
   | nil => simp
   | cons y l ih =>
    intro x hx t ht;simp only [incL,Bool.and_eq_true,decide_eq_true_eq] at hx;rcases List.mem_cons.1 ht with rfl | ht
    ·exact hx.1
    ·have := ih y hx.2 t ht; omega
  rcases List.mem_cons.1 ht with rfl | ht
  ·exact hi.1
  ·have := key r b hi.2 t ht; omega
def openE (a b : List Part) (ts : List Int) : Int :=
 if (pairL a b).e ≠ 0 then (pairL a b).e else if (ts.all fun t => decide (1 ≤ t ∧ t ≤ (pairL a b).more.length)) = false then 2 else if incL ts = false then 6
 else if (aheadGo (pairL a b).more 0 ts).isSome = false then 9 else 0
def openL (a b : List Part) (ts : List Int) : List Span := if openE a b ts = 0 then (aheadGo (pairL a b).more 0 ts).getD [] else []
theorem pairL_ok {a b : List Part} (h : (pairL a b).e = 0) : checkL a = 0 ∧ checkL b = 0 ∧ picksL a = picksL b ∧ pairL a b = ⟨widthsL a,widthsL b,moreL (widthsL a) (widthsL b),0⟩ := by
 unfold pairL at h ⊢;by_cases h1 : checkL a = 0
 ·by_cases h2 : checkL b = 0
  ·by_cases h3 : picksL a = picksL b
   ·simp [h1,h2,h3]
   ·simp [h1,h2,h3] at h
  ·simp [h1,h2] at h
 ·simp [h1] at h
theorem open_ok (a b : List Part) (ts : List Int) (hts : ts.length ≤ 1000) : lim F 61 [.list 3 (a.map Part.av),.list 3 (b.map Part.av),.list 1 (ts.map fun n => iv n)] =
  some (.tuple [(pairL a b).av,.own 2 ((openL a b ts).map Span.av),iv (openE a b ts)],[]) := by
 have hnp := newPair_ok a b;have hsm : (pairL a b).e = 0 → Small (pairL a b).more := fun h => by
  obtain ⟨h1,h2,h3,h4⟩ := pairL_ok h;rw [h4]; exact more_small h1 h2
 unfold openL openE;generalize pairL a b = p at *;simp only [PairL.av] at hnp ⊢;by_cases h0 : p.e = 0
 ·have hsm := hsm h0
  have hl := hsm.1;rw [h0] at hnp;have hw := within_ok 1 p.more.length ts (by omega)
  cases h1 : (ts.all fun t => decide (1 ≤ t ∧ t ≤ (p.more.length : Int))) with
  | false =>
   rw [h1] at hw;refine Yr (fn:=a61) (k:=3) (res:=[.cell 6 3 true,.tmp 7,.tmp 8]) rfl rfl rfl (by simp -implicitDefEqProofs(maxSteps:=9^7)(disch:=first|exact Yo rfl|omega|(simp only[go_sem]<;>omega)|fail)only[go_sem]) ?_
   try delta mvA
   try delta opA
   try delta tA
   simp -implicitDefEqProofs(maxSteps:=9^7)(disch:=first|exact Yo rfl|omega|(simp only[go_sem]<;>omega)|fail)only[go_sem]
   repeat(first|apply Ya|apply Yb|apply Yc|((first|apply Yd|apply Ye|apply Yf|apply Yg|apply Yh);simp -implicitDefEqProofs(maxSteps:=9^7)(disch:=first|exact Yo rfl|omega|(simp only[go_sem]<;>omega)|fail)only[go_sem,hnp,hw]<;>try with_reducible rfl)|apply Yi|apply Yj|apply Yk|apply Yl|apply Ym|apply Yn)
   simp [h0]
  | true =>
   rw [h1] at hw;refine Yr (fn:=a61) (k:=3) (res:=[.cell 6 3 true,.tmp 7,.tmp 8]) rfl rfl rfl (by simp -implicitDefEqProofs(maxSteps:=9^7)(disch:=first|exact Yo rfl|omega|(simp only[go_sem]<;>omega)|fail)only[go_sem]) ?_
   try delta mvA
   try delta opA
   try delta tA
   simp -implicitDefEqProofs(maxSteps:=9^7)(disch:=first|exact Yo rfl|omega|(simp only[go_sem]<;>omega)|fail)only[go_sem]
   repeat(first|apply Ya|apply Yb|apply Yc|((first|apply Yd|apply Ye|apply Yf|apply Yg|apply Yh);simp -implicitDefEqProofs(maxSteps:=9^7)(disch:=first|exact Yo rfl|omega|(simp only[go_sem]<;>omega)|fail)only[go_sem,hnp,hw]<;>try with_reducible rfl)|apply Yi|apply Yj|apply Yk|apply Yl|apply Ym|apply Yn)
   apply Yt ts.length (fun i => ⟨[(2,.list 1 (ts.map fun n => iv n)),(6,.ptr 384 0 0),(29,iv ts.length),(30,iv i)],
    [(384,.box [.slice 306144 0 p.a.length,.slice 306145 0 p.b.length,.slice 306146 0 p.more.length]),(306144,.arr 2 (p.a.map Span.av)),(306145,.arr 2 (p.b.map Span.av)),(306146,.arr 2 (p.more.map Span.av))],[],10000000⟩)
    (fun i => ∀ j (h : j + 1 < ts.length),j + 1 < i → ts[j] < ts[j + 1])
   ·simp -implicitDefEqProofs(maxSteps:=9^7)(disch:=first|exact Yo rfl|omega|(simp only[go_sem]<;>omega)|fail)only[go_sem,norm_eq,Ok.some]
   ·intro j h hj; omega
   intro i hi hinc;by_cases h : i < ts.length
   ·have hxi : ts[i]? = some ts[i] := List.getElem?_eq_getElem h
    cases i with
    | zero =>
     repeat(first|apply Ya|apply Yb|apply Yc|((first|apply Yd|apply Ye|apply Yf|apply Yg|apply Yh);simp -implicitDefEqProofs(maxSteps:=9^7)(disch:=first|exact Yo rfl|omega|(simp only[go_sem]<;>omega)|fail)only[go_sem,show (0 : Int) < (ts.length : Int) by omega,List.getElem?_map,hxi,Option.map_some]<;>try with_reducible rfl)|apply Yi|apply Yj|apply Yk|apply Yl|apply Ym|apply Yn)
     apply Ys
     ·simp -implicitDefEqProofs(maxSteps:=9^7)(disch:=first|exact Yo rfl|omega|(simp only[go_sem]<;>omega)|fail)only[go_sem,norm_eq,Ok.some]; with_reducible rfl
     exact ⟨h,by simp,fun j _ hj => by omega⟩
    | succ i =>
     have hx : ts[i]? = some ts[i] := List.getElem?_eq_getElem (by omega)
     by_cases hc : ts[i + 1] ≤ ts[i]
     ·have hno : incL ts = false := by
       rw [← Bool.not_eq_true,incL_iff]; intro hh; have := hh i h; omega
      repeat(first|apply Ya|apply Yb|apply Yc|((first|apply Yd|apply Ye|apply Yf|apply Yg|apply Yh);simp -implicitDefEqProofs(maxSteps:=9^7)(disch:=first|exact Yo rfl|omega|(simp only[go_sem]<;>omega)|fail)only[go_sem,h,Int.ofNat_lt,List.getElem?_map,hxi,hx,Option.map_some,hc,show (0 : Int) < ((i + 1 : Nat) : Int) by omega,show (((i + 1 : Nat) : Int) - 1).toNat = i by omega]<;>try with_reducible rfl)|apply Yi|apply Yj|apply Yk|apply Yl|apply Ym|apply Yn)
      simp [h0,hno]
     ·repeat(first|apply Ya|apply Yb|apply Yc|((first|apply Yd|apply Ye|apply Yf|apply Yg|apply Yh);simp -implicitDefEqProofs(maxSteps:=9^7)(disch:=first|exact Yo rfl|omega|(simp only[go_sem]<;>omega)|fail)only[go_sem,h,Int.ofNat_lt,List.getElem?_map,hxi,hx,Option.map_some,hc,show (0 : Int) < ((i + 1 : Nat) : Int) by omega,show (((i + 1 : Nat) : Int) - 1).toNat = i by omega]<;>try with_reducible rfl)|apply Yi|apply Yj|apply Yk|apply Yl|apply Ym|apply Yn)
      apply Ys
      ·simp -implicitDefEqProofs(maxSteps:=9^7)(disch:=first|exact Yo rfl|omega|(simp only[go_sem]<;>omega)|fail)only[go_sem,norm_eq,Ok.some]; with_reducible rfl
      refine ⟨h,by simp,fun j hj hji => ?_⟩
      by_cases e : j = i
      ·subst e; omega
      ·exact hinc j hj (by omega)
   ·obtain rfl : i = ts.length := by omega
    have hyes : incL ts = true := incL_iff.2 fun j hj => hinc j hj hj
    have hup : Up p.more.length 0 ts := up_of (fun t ht => by have := List.all_eq_true.1 h1 t ht; simp at this; omega) hyes
    have hah := pairAhead_ok (.list 2 (p.a.map Span.av)) (.list 2 (p.b.map Span.av)) p.more ts hsm hup ⟨_,_,rfl⟩ ⟨_,_,rfl⟩ hts;cases hgo : aheadGo p.more 0 ts with
    | none =>
     rw [hgo] at hah;simp only [Option.getD_none,List.map_nil,Option.isSome_none] at hah;repeat(first|apply Ya|apply Yb|apply Yc|((first|apply Yd|apply Ye|apply Yf|apply Yg|apply Yh);simp -implicitDefEqProofs(maxSteps:=9^7)(disch:=first|exact Yo rfl|omega|(simp only[go_sem]<;>omega)|fail)only[go_sem,Int.lt_irrefl,hah]<;>try with_reducible rfl)|apply Yi|apply Yj|apply Yk|apply Yl|apply Ym|apply Yn)
     simp [h0,hyes]
    | some l =>
     rw [hgo] at hah;simp only [Option.getD_some,Option.isSome_some] at hah;repeat(first|apply Ya|apply Yb|apply Yc|((first|apply Yd|apply Ye|apply Yf|apply Yg|apply Yh);simp -implicitDefEqProofs(maxSteps:=9^7)(disch:=first|exact Yo rfl|omega|(simp only[go_sem]<;>omega)|fail)only[go_sem,Int.lt_irrefl,hah]<;>try with_reducible rfl)|apply Yi|apply Yj|apply Yk|apply Yl|apply Ym|apply Yn)
     simp [h0,hyes]
 ·refine Yr (fn:=a61) (k:=3) (res:=[.cell 6 3 true,.tmp 7,.tmp 8]) rfl rfl rfl (by simp -implicitDefEqProofs(maxSteps:=9^7)(disch:=first|exact Yo rfl|omega|(simp only[go_sem]<;>omega)|fail)only[go_sem]) ?_
  try delta mvA
  try delta opA
  try delta tA
  simp -implicitDefEqProofs(maxSteps:=9^7)(disch:=first|exact Yo rfl|omega|(simp only[go_sem]<;>omega)|fail)only[go_sem]
  repeat(first|apply Ya|apply Yb|apply Yc|((first|apply Yd|apply Ye|apply Yf|apply Yg|apply Yh);simp -implicitDefEqProofs(maxSteps:=9^7)(disch:=first|exact Yo rfl|omega|(simp only[go_sem]<;>omega)|fail)only[go_sem,hnp,h0]<;>try with_reducible rfl)|apply Yi|apply Yj|apply Yk|apply Yl|apply Ym|apply Yn)
theorem Ahead_ok (a b : List Part) (ts : List Int) (hts : ts.length ≤ 1000) : lim F 20 [.list 3 (a.map Part.av),.list 3 (b.map Part.av),.list 1 (ts.map fun n => iv n)] =
  some (.tuple [.own 2 ((openL a b ts).map Span.av),iv (openE a b ts)],[]) := by
 have h := open_ok a b ts hts;simp only [PairL.av] at h;by_cases h0 : openE a b ts = 0
 ·rw [h0] at h ⊢
  refine Yr (fn:=a20) (k:=3) (res:=[.tmp 6,.tmp 7]) rfl rfl rfl (by simp -implicitDefEqProofs(maxSteps:=9^7)(disch:=first|exact Yo rfl|omega|(simp only[go_sem]<;>omega)|fail)only[go_sem]) ?_
  try delta mvA
  try delta opA
  try delta tA
  simp -implicitDefEqProofs(maxSteps:=9^7)(disch:=first|exact Yo rfl|omega|(simp only[go_sem]<;>omega)|fail)only[go_sem]
  repeat(first|apply Ya|apply Yb|apply Yc|((first|apply Yd|apply Ye|apply Yf|apply Yg|apply Yh);simp -implicitDefEqProofs(maxSteps:=9^7)(disch:=first|exact Yo rfl|omega|(simp only[go_sem]<;>omega)|fail)only[go_sem,h]<;>try with_reducible rfl)|apply Yi|apply Yj|apply Yk|apply Yl|apply Ym|apply Yn)
 ·have e : openL a b ts = [] := by simp [openL,h0]
  rw [e] at h ⊢;refine Yr (fn:=a20) (k:=3) (res:=[.tmp 6,.tmp 7]) rfl rfl rfl (by simp -implicitDefEqProofs(maxSteps:=9^7)(disch:=first|exact Yo rfl|omega|(simp only[go_sem]<;>omega)|fail)only[go_sem]) ?_
  try delta mvA
  try delta opA
  try delta tA
  simp -implicitDefEqProofs(maxSteps:=9^7)(disch:=first|exact Yo rfl|omega|(simp only[go_sem]<;>omega)|fail)only[go_sem]
  repeat(first|apply Ya|apply Yb|apply Yc|((first|apply Yd|apply Ye|apply Yf|apply Yg|apply Yh);simp -implicitDefEqProofs(maxSteps:=9^7)(disch:=first|exact Yo rfl|omega|(simp only[go_sem]<;>omega)|fail)only[go_sem,h,h0]<;>try with_reducible rfl)|apply Yi|apply Yj|apply Yk|apply Yl|apply Ym|apply Yn)
def placesL (l : List Part) : List Span := if checkL l = 0 then sumsL (widthsL l) else []
structure PairA where
 a : List Part
 b : List Part
 marks : List Int
def PairA.av (x : PairA) : AV := .agg [.list 3 (x.a.map Part.av),.list 3 (x.b.map Part.av),.list 1 (x.marks.map fun n => iv n)]
abbrev PairA.Large (x : PairA) : Prop := 20 < x.a.length ∨ 20 < x.b.length ∨ 210 < x.marks.length
end Go.Abs.Seam
