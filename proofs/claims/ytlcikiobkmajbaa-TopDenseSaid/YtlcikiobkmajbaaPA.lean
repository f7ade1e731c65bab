/-
 Chapter 10: the wage of a piece by a list of two rates without extras. No condition beyond those that each theorem names.
-/
import Derived.Test.YtlcikiobkmajbaaP1
import Derived.Test.YtlcikiobkmajbaaKnPy
import Derived.Test.YtlcikiobkmajbaaWpE
import Derived.Test.YtlcikiobkmajbaaEvI
set_option linter.all false
namespace Go.Abs
set_option maxRecDepth 10000
set_option maxHeartbeats 4000000
theorem ywithin1_ok (lo hi n : Int) : lim F 138 [iv n,.iptr (.agg [iv lo]) 0,.iptr (.agg [iv hi]) 0] = some (.bool (decide (n < lo ∨ hi < n)),[]):=by
 by_cases h1 : n < lo <;> by_cases h2 : hi < n
 all_goals
  refine Yr (fn:=a138) (k:=3) (res:=[.tmp 4]) rfl rfl rfl (by simp -implicitDefEqProofs(maxSteps:=9^7)(disch:=first|exact Yo rfl|omega|(simp only[go_sem]<;>omega)|fail)only[go_sem]) ?_
  try delta mvA
  try delta opA
  try delta tA
  simp -implicitDefEqProofs(maxSteps:=9^7)(disch:=first|exact Yo rfl|omega|(simp only[go_sem]<;>omega)|fail)only[go_sem]
  repeat(first|apply Ya|apply Yb|apply Yc|((first|apply Yd|apply Ye|apply Yf|apply Yg|apply Yh);simp -implicitDefEqProofs(maxSteps:=9^7)(disch:=first|exact Yo rfl|omega|(simp only[go_sem]<;>omega)|fail)only[go_sem,h1,h2]<;>try with_reducible rfl)|apply Yi|apply Yj|apply Yk|apply Yl|apply Ym|apply Yn)
theorem ywithin_ok (lo hi : Int) (l : List Int) (hl : l.length < 1000000000) : lim F 103 [iv lo,iv hi,.list 1 (l.map fun n=>iv n)] = some (.bool (l.all fun n=>decide (lo≤n∧n≤hi)),[]):=by
 have h:=contains_ints l (fun n=>decide (n < lo ∨ hi < n)) 138 (.agg [iv lo]) (.agg [iv hi]) hl (fun n _ => ywithin1_ok lo hi n)
 refine Yr (fn:=a103) (k:=3) (res:=[.tmp 6]) rfl rfl rfl (by simp -implicitDefEqProofs(maxSteps:=9^7)(disch:=first|exact Yo rfl|omega|(simp only[go_sem]<;>omega)|fail)only[go_sem]) ?_
 try delta mvA
 try delta opA
 try delta tA
 simp -implicitDefEqProofs(maxSteps:=9^7)(disch:=first|exact Yo rfl|omega|(simp only[go_sem]<;>omega)|fail)only[go_sem]
 repeat(first|apply Ya|apply Yb|apply Yc|((first|apply Yd|apply Ye|apply Yf|apply Yg|apply Yh);simp -implicitDefEqProofs(maxSteps:=9^7)(disch:=first|exact Yo rfl|omega|(simp only[go_sem]<;>omega)|fail)only[go_sem,h]<;>try with_reducible rfl)|apply Yi|apply Yj|apply Yk|apply Yl|apply Ym|apply Yn)
 simp only [Option.some.injEq,Prod.mk.injEq,AV.bool.injEq,and_true];rw [List.any_eq_not_all_not,Bool.not_not]
 congr 1
 funext n;by_cases h1 : n < lo <;> by_cases h2 : hi < n <;> simp [h1,h2] <;> omega
theorem ywithin_in {lo hi n : Int} (h1 : lo≤n) (h2 : n≤hi) : lim F 103 [iv lo,iv hi,.list 1 [iv n]] = some (.bool true,[]):=by
 have h:=ywithin_ok lo hi [n] (by simp)
 simpa [h1,h2] using h
theorem ywithin_nil (lo hi : Int) : lim F 103 [iv lo,iv hi,.list 1 []] = some (.bool true,[]):=by
 have h:=ywithin_ok lo hi [] (by simp)
 simpa using h
abbrev nilC : AV:=.const (.slice none 0 0)
theorem nil_one : (Value.slice none 0 0).oneCell' = true:=rfl
theorem ywithin_nilC (lo hi : Int) : lim F 103 [iv lo,iv hi,nilC] = some (.bool true,[]):=by
 have h : lim F 87 [nilC,.func 138 [.iptr (.agg [iv lo]) 0,.iptr (.agg [iv hi]) 0]] = some (.bool false,[]):=by
  have h2 : lim F 119 [nilC,.func 138 [.iptr (.agg [iv lo]) 0,.iptr (.agg [iv hi]) 0]] = some (iv (-1),[]):=by
   refine Yr (fn:=a119) (k:=2) (res:=[.tmp 4]) rfl rfl rfl (by simp -implicitDefEqProofs(maxSteps:=9^7)(disch:=first|exact Yo rfl|omega|(simp only[go_sem]<;>omega)|fail)only[go_sem]) ?_
   try delta mvA
   try delta opA
   try delta tA
   simp -implicitDefEqProofs(maxSteps:=9^7)(disch:=first|exact Yo rfl|omega|(simp only[go_sem]<;>omega)|fail)only[go_sem]
   repeat(first|apply Ya|apply Yb|apply Yc|((first|apply Yd|apply Ye|apply Yf|apply Yg|apply Yh);simp -implicitDefEqProofs(maxSteps:=9^7)(disch:=first|exact Yo rfl|omega|(simp only[go_sem]<;>omega)|fail)only[go_sem]<;>try with_reducible rfl)|apply Yi|apply Yj|apply Yk|apply Yl|apply Ym|apply Yn)
   apply Yt 0 (fun i=>⟨[(0,nilC),(1,.func 138 [.iptr (.agg [iv lo]) 0,.iptr (.agg [iv hi]) 0]),(7,iv 0),(8,iv (i : Int))],[],[],10000000⟩) (fun _=>True)
   ·simp -implicitDefEqProofs(maxSteps:=9^7)(disch:=first|exact Yo rfl|omega|(simp only[go_sem]<;>omega)|fail)only[go_sem,norm_eq,Ok.some]
    try rfl
   ·trivial
   intro i hi _;obtain rfl : i = 0:=by omega
   repeat(first|apply Ya|apply Yb|apply Yc|((first|apply Yd|apply Ye|apply Yf|apply Yg|apply Yh);simp -implicitDefEqProofs(maxSteps:=9^7)(disch:=first|exact Yo rfl|omega|(simp only[go_sem]<;>omega)|fail)only[go_sem,Int.lt_irrefl]<;>try with_reducible rfl)|apply Yi|apply Yj|apply Yk|apply Yl|apply Ym|apply Yn)
   try rfl
  refine Yr (fn:=a87) (k:=2) (res:=[.tmp 4]) rfl rfl rfl (by simp -implicitDefEqProofs(maxSteps:=9^7)(disch:=first|exact Yo rfl|omega|(simp only[go_sem]<;>omega)|fail)only[go_sem]) ?_
  try delta mvA
  try delta opA
  try delta tA
  simp -implicitDefEqProofs(maxSteps:=9^7)(disch:=first|exact Yo rfl|omega|(simp only[go_sem]<;>omega)|fail)only[go_sem]
  repeat(first|apply Ya|apply Yb|apply Yc|((first|apply Yd|apply Ye|apply Yf|apply Yg|apply Yh);simp -implicitDefEqProofs(maxSteps:=9^7)(disch:=first|exact Yo rfl|omega|(simp only[go_sem]<;>omega)|fail)only[go_sem,h2]<;>try with_reducible rfl)|apply Yi|apply Yj|apply Yk|apply Yl|apply Ym|apply Yn)
 refine Yr (fn:=a103) (k:=3) (res:=[.tmp 6]) rfl rfl rfl (by simp -implicitDefEqProofs(maxSteps:=9^7)(disch:=first|exact Yo rfl|omega|(simp only[go_sem]<;>omega)|fail)only[go_sem]) ?_
 try delta mvA
 try delta opA
 try delta tA
 simp -implicitDefEqProofs(maxSteps:=9^7)(disch:=first|exact Yo rfl|omega|(simp only[go_sem]<;>omega)|fail)only[go_sem]
 repeat(first|apply Ya|apply Yb|apply Yc|((first|apply Yd|apply Ye|apply Yf|apply Yg|apply Yh);simp -implicitDefEqProofs(maxSteps:=9^7)(disch:=first|exact Yo rfl|omega|(simp only[go_sem]<;>omega)|fail)only[go_sem,h]<;>try with_reducible rfl)|apply Yi|apply Yj|apply Yk|apply Yl|apply Ym|apply Yn)
theorem sorted_nilC : lim F 157 [nilC] = some (.bool true,[]):=by
 refine Yr (fn:=a157) (k:=1) (res:=[.tmp 2]) rfl rfl rfl (by simp -implicitDefEqProofs(maxSteps:=9^7)(disch:=first|exact Yo rfl|omega|(simp only[go_sem]<;>omega)|fail)only[go_sem]) ?_
 try delta mvA
 try delta opA
 try delta tA
 simp -implicitDefEqProofs(maxSteps:=9^7)(disch:=first|exact Yo rfl|omega|(simp only[go_sem]<;>omega)|fail)only[go_sem]
 repeat(first|apply Ya|apply Yb|apply Yc|((first|apply Yd|apply Ye|apply Yf|apply Yg|apply Yh);simp -implicitDefEqProofs(maxSteps:=9^7)(disch:=first|exact Yo rfl|omega|(simp only[go_sem]<;>omega)|fail)only[go_sem]<;>try with_reducible rfl)|apply Yi|apply Yj|apply Yk|apply Yl|apply Ym|apply Yn)
 apply Yt 0 (fun i=>⟨[(0,nilC),(3,iv (-1))],[],[],10000000⟩) (fun _=>True)
 ·simp -implicitDefEqProofs(maxSteps:=9^7)(disch:=first|exact Yo rfl|omega|(simp only[go_sem]<;>omega)|fail)only[go_sem,norm_eq,Ok.some]
  try rfl
 ·trivial
 intro i hi _;obtain rfl : i = 0:=by omega
 repeat(first|apply Ya|apply Yb|apply Yc|((first|apply Yd|apply Ye|apply Yf|apply Yg|apply Yh);simp -implicitDefEqProofs(maxSteps:=9^7)(disch:=first|exact Yo rfl|omega|(simp only[go_sem]<;>omega)|fail)only[go_sem,Int.lt_irrefl]<;>try with_reducible rfl)|apply Yi|apply Yj|apply Yk|apply Yl|apply Ym|apply Yn)
 try rfl
theorem clone_nilC : lim F 159 [nilC] = some (.own 1 [],[]):=by
 refine Yr (fn:=a159) (k:=1) (res:=[.tmp 2]) rfl rfl rfl (by simp -implicitDefEqProofs(maxSteps:=9^7)(disch:=first|exact Yo rfl|omega|(simp only[go_sem]<;>omega)|fail)only[go_sem]) ?_
 try delta mvA
 try delta opA
 try delta tA
 simp -implicitDefEqProofs(maxSteps:=9^7)(disch:=first|exact Yo rfl|omega|(simp only[go_sem]<;>omega)|fail)only[go_sem]
 repeat(first|apply Ya|apply Yb|apply Yc|((first|apply Yd|apply Ye|apply Yf|apply Yg|apply Yh);simp -implicitDefEqProofs(maxSteps:=9^7)(disch:=first|exact Yo rfl|omega|(simp only[go_sem]<;>omega)|fail)only[go_sem]<;>try with_reducible rfl)|apply Yi|apply Yj|apply Yk|apply Yl|apply Ym|apply Yn)
theorem compact_nil : lim F 158 [.list 1 []] = some (.list 1 [],[]):=by
 refine Yr (fn:=a158) (k:=1) (res:=[.tmp 2]) rfl rfl rfl (by simp -implicitDefEqProofs(maxSteps:=9^7)(disch:=first|exact Yo rfl|omega|(simp only[go_sem]<;>omega)|fail)only[go_sem]) ?_
 try delta mvA
 try delta opA
 try delta tA
 simp -implicitDefEqProofs(maxSteps:=9^7)(disch:=first|exact Yo rfl|omega|(simp only[go_sem]<;>omega)|fail)only[go_sem]
 repeat(first|apply Ya|apply Yb|apply Yc|((first|apply Yd|apply Ye|apply Yf|apply Yg|apply Yh);simp -implicitDefEqProofs(maxSteps:=9^7)(disch:=first|exact Yo rfl|omega|(simp only[go_sem]<;>omega)|fail)only[go_sem]<;>try with_reducible rfl)|apply Yi|apply Yj|apply Yk|apply Yl|apply Ym|apply Yn)
theorem ascend_nilC : lim F 135 [nilC] = some (.bool true,[]):=by
 have h1:=sorted_nilC;have h2:=clone_nilC;have h3:=compact_nil;refine Yr (fn:=a135) (k:=1) (res:=[.tmp 2]) rfl rfl rfl (by simp -implicitDefEqProofs(maxSteps:=9^7)(disch:=first|exact Yo rfl|omega|(simp only[go_sem]<;>omega)|fail)only[go_sem]) ?_
 try delta mvA
 try delta opA
 try delta tA
 simp -implicitDefEqProofs(maxSteps:=9^7)(disch:=first|exact Yo rfl|omega|(simp only[go_sem]<;>omega)|fail)only[go_sem]
 repeat(first|apply Ya|apply Yb|apply Yc|((first|apply Yd|apply Ye|apply Yf|apply Yg|apply Yh);simp -implicitDefEqProofs(maxSteps:=9^7)(disch:=first|exact Yo rfl|omega|(simp only[go_sem]<;>omega)|fail)only[go_sem,h1,h2,h3]<;>try with_reducible rfl)|apply Yi|apply Yj|apply Yk|apply Yl|apply Ym|apply Yn)
 try rfl
theorem cmpI_ok (x y : Int) : lim F 106 [iv x,iv y] = some (iv (if x < y then -1 else if x = y then 0 else 1),[]):=by
 have h : ∀ x : Int,lim F 140 [iv x] = some (.bool false,[]):=fun x=>by
  refine Yr (fn:=a140) (k:=1) (res:=[.tmp 2]) rfl rfl rfl (by simp -implicitDefEqProofs(maxSteps:=9^7)(disch:=first|exact Yo rfl|omega|(simp only[go_sem]<;>omega)|fail)only[go_sem]) ?_
  try delta mvA
  try delta opA
  try delta tA
  simp -implicitDefEqProofs(maxSteps:=9^7)(disch:=first|exact Yo rfl|omega|(simp only[go_sem]<;>omega)|fail)only[go_sem]
  repeat(first|apply Ya|apply Yb|apply Yc|((first|apply Yd|apply Ye|apply Yf|apply Yg|apply Yh);simp -implicitDefEqProofs(maxSteps:=9^7)(disch:=first|exact Yo rfl|omega|(simp only[go_sem]<;>omega)|fail)only[go_sem]<;>try with_reducible rfl)|apply Yi|apply Yj|apply Yk|apply Yl|apply Ym|apply Yn)
 have a1:=h x;have a2:=h y;by_cases h1 : x < y
 ·rw [if_pos h1]
  refine Yr (fn:=a106) (k:=2) (res:=[.tmp 4]) rfl rfl rfl (by simp -implicitDefEqProofs(maxSteps:=9^7)(disch:=first|exact Yo rfl|omega|(simp only[go_sem]<;>omega)|fail)only[go_sem]) ?_
  try delta mvA
  try delta opA
  try delta tA
  simp -implicitDefEqProofs(maxSteps:=9^7)(disch:=first|exact Yo rfl|omega|(simp only[go_sem]<;>omega)|fail)only[go_sem]
  repeat(first|apply Ya|apply Yb|apply Yc|((first|apply Yd|apply Ye|apply Yf|apply Yg|apply Yh);simp -implicitDefEqProofs(maxSteps:=9^7)(disch:=first|exact Yo rfl|omega|(simp only[go_sem]<;>omega)|fail)only[go_sem,a1,a2,h1]<;>try with_reducible rfl)|apply Yi|apply Yj|apply Yk|apply Yl|apply Ym|apply Yn)
 ·rw [if_neg h1]
  by_cases h2 : x = y
  ·rw [if_pos h2]
   have h3 : ¬ y < x:=by omega
   refine Yr (fn:=a106) (k:=2) (res:=[.tmp 4]) rfl rfl rfl (by simp -implicitDefEqProofs(maxSteps:=9^7)(disch:=first|exact Yo rfl|omega|(simp only[go_sem]<;>omega)|fail)only[go_sem]) ?_
   try delta mvA
   try delta opA
   try delta tA
   simp -implicitDefEqProofs(maxSteps:=9^7)(disch:=first|exact Yo rfl|omega|(simp only[go_sem]<;>omega)|fail)only[go_sem]
   repeat(first|apply Ya|apply Yb|apply Yc|((first|apply Yd|apply Ye|apply Yf|apply Yg|apply Yh);simp -implicitDefEqProofs(maxSteps:=9^7)(disch:=first|exact Yo rfl|omega|(simp only[go_sem]<;>omega)|fail)only[go_sem,a1,a2,h1,h3]<;>try with_reducible rfl)|apply Yi|apply Yj|apply Yk|apply Yl|apply Ym|apply Yn)
  ·rw [if_neg h2]
   refine Yr (fn:=a106) (k:=2) (res:=[.tmp 4]) rfl rfl rfl (by simp -implicitDefEqProofs(maxSteps:=9^7)(disch:=first|exact Yo rfl|omega|(simp only[go_sem]<;>omega)|fail)only[go_sem]) ?_
   try delta mvA
   try delta opA
   try delta tA
   simp -implicitDefEqProofs(maxSteps:=9^7)(disch:=first|exact Yo rfl|omega|(simp only[go_sem]<;>omega)|fail)only[go_sem]
   repeat(first|apply Ya|apply Yb|apply Yc|((first|apply Yd|apply Ye|apply Yf|apply Yg|apply Yh);simp -implicitDefEqProofs(maxSteps:=9^7)(disch:=first|exact Yo rfl|omega|(simp only[go_sem]<;>omega)|fail)only[go_sem,a1,a2,h1,show y < x by omega]<;>try with_reducible rfl)|apply Yi|apply Yj|apply Yk|apply Yl|apply Ym|apply Yn)
theorem byFrom_ok (f r y : Int) : lim F 137 [.agg [iv f,iv r],iv y] = some (iv (if f < y then -1 else if f = y then 0 else 1),[]):=by
 have h:=cmpI_ok f y;refine Yr (fn:=a137) (k:=2) (res:=[.tmp 4]) rfl rfl rfl (by simp -implicitDefEqProofs(maxSteps:=9^7)(disch:=first|exact Yo rfl|omega|(simp only[go_sem]<;>omega)|fail)only[go_sem]) ?_
 try delta mvA
 try delta opA
 try delta tA
 simp -implicitDefEqProofs(maxSteps:=9^7)(disch:=first|exact Yo rfl|omega|(simp only[go_sem]<;>omega)|fail)only[go_sem]
 repeat(first|apply Ya|apply Yb|apply Yc|((first|apply Yd|apply Ye|apply Yf|apply Yg|apply Yh);simp -implicitDefEqProofs(maxSteps:=9^7)(disch:=first|exact Yo rfl|omega|(simp only[go_sem]<;>omega)|fail)only[go_sem,h]<;>try with_reducible rfl)|apply Yi|apply Yj|apply Yk|apply Yl|apply Ym|apply Yn)
def prV (r0 f1 r1 : Int) : List AV:=[.agg [iv 0,iv r0],.agg [iv f1,iv r1]]
def priceV (r0 f1 r1 fine cap : Int) : AV:=.agg [.list 2 (prV r0 f1 r1),.list 1 [],iv fine,iv cap]
def pieceV (a c : Int) : AV:=.agg [iv 0,iv a,iv c,nilC,iv 0]
structure PriceOk (r0 f1 r1 fine cap : Int) : Prop where
 r0 : 0≤r0∧r0≤10000
 f1 : 1≤f1∧f1≤1000
 r1 : 0≤r1∧r1≤10000
 fine : 0≤fine∧fine≤1000
 cap : 0≤cap∧cap≤1000
theorem areParts_nil : lim F 134 [.list 1 []] = some (.bool true,[]):=by
 have h:=ywithin_nil 0 1000;refine Yr (fn:=a134) (k:=1) (res:=[.tmp 2]) rfl rfl rfl (by simp -implicitDefEqProofs(maxSteps:=9^7)(disch:=first|exact Yo rfl|omega|(simp only[go_sem]<;>omega)|fail)only[go_sem]) ?_
 try delta mvA
 try delta opA
 try delta tA
 simp -implicitDefEqProofs(maxSteps:=9^7)(disch:=first|exact Yo rfl|omega|(simp only[go_sem]<;>omega)|fail)only[go_sem]
 repeat(first|apply Ya|apply Yb|apply Yc|((first|apply Yd|apply Ye|apply Yf|apply Yg|apply Yh);simp -implicitDefEqProofs(maxSteps:=9^7)(disch:=first|exact Yo rfl|omega|(simp only[go_sem]<;>omega)|fail)only[go_sem,h]<;>try with_reducible rfl)|apply Yi|apply Yj|apply Yk|apply Yl|apply Ym|apply Yn)
theorem areParts_in {n : Int} (h1 : 0≤n) (h2 : n≤1000) : lim F 134 [.list 1 [iv n]] = some (.bool true,[]):=by
 have h:=ywithin_in h1 h2;refine Yr (fn:=a134) (k:=1) (res:=[.tmp 2]) rfl rfl rfl (by simp -implicitDefEqProofs(maxSteps:=9^7)(disch:=first|exact Yo rfl|omega|(simp only[go_sem]<;>omega)|fail)only[go_sem]) ?_
 try delta mvA
 try delta opA
 try delta tA
 simp -implicitDefEqProofs(maxSteps:=9^7)(disch:=first|exact Yo rfl|omega|(simp only[go_sem]<;>omega)|fail)only[go_sem]
 repeat(first|apply Ya|apply Yb|apply Yc|((first|apply Yd|apply Ye|apply Yf|apply Yg|apply Yh);simp -implicitDefEqProofs(maxSteps:=9^7)(disch:=first|exact Yo rfl|omega|(simp only[go_sem]<;>omega)|fail)only[go_sem,h]<;>try with_reducible rfl)|apply Yi|apply Yj|apply Yk|apply Yl|apply Ym|apply Yn)
def rateN (f1 r0 r1 a : Int) : Int:=if a < f1 then r0 else r1
theorem areRates_two {r0 f1 r1 fine cap : Int} (h : PriceOk r0 f1 r1 fine cap) : lim F 133 [priceV r0 f1 r1 fine cap] = some (.bool true,[]):=by
 have w1:=ywithin_in (lo:=0) (hi:=0) (n:=0) (by omega) (by omega)
 have w2:=ywithin_in h.r0.1 h.r0.2;have w3:=ywithin_in h.f1.1 h.f1.2;have w4:=ywithin_in h.r1.1 h.r1.2;have f1':=h.f1;unfold priceV prV;refine Yr (fn:=a133) (k:=1) (res:=[.tmp 2]) rfl rfl rfl (by simp -implicitDefEqProofs(maxSteps:=9^7)(disch:=first|exact Yo rfl|omega|(simp only[go_sem]<;>omega)|fail)only[go_sem]) ?_
 try delta mvA
 try delta opA
 try delta tA
 simp -implicitDefEqProofs(maxSteps:=9^7)(disch:=first|exact Yo rfl|omega|(simp only[go_sem]<;>omega)|fail)only[go_sem]
 repeat(first|apply Ya|apply Yb|apply Yc|((first|apply Yd|apply Ye|apply Yf|apply Yg|apply Yh);simp -implicitDefEqProofs(maxSteps:=9^7)(disch:=first|exact Yo rfl|omega|(simp only[go_sem]<;>omega)|fail)only[go_sem]<;>try with_reducible rfl)|apply Yi|apply Yj|apply Yk|apply Yl|apply Ym|apply Yn)
 apply Yt 2 (fun i=>⟨[(1,.ptr 64 0 0),(3,iv (if i = 0 then 0 else if i = 1 then 1 else f1 + 1)),(4,iv (if i = 0 then 0 else 1000)),(9,.list 2 [.agg [iv 0,iv r0],.agg [iv f1,iv r1]]),(10,iv 2),(11,iv (i : Int))],[(64,.box [.list 2 [.agg [iv 0,iv r0],.agg [iv f1,iv r1]],.list 1 [],iv fine,iv cap])],[],10000000⟩) (fun _=>True)
 ·simp -implicitDefEqProofs(maxSteps:=9^7)(disch:=first|exact Yo rfl|omega|(simp only[go_sem]<;>omega)|fail)only[go_sem,norm_eq,Ok.some]
  try rfl
 ·trivial
 intro i hi _
 match i,hi with
 | 0,_ =>
  repeat(first|apply Ya|apply Yb|apply Yc|((first|apply Yd|apply Ye|apply Yf|apply Yg|apply Yh);simp -implicitDefEqProofs(maxSteps:=9^7)(disch:=first|exact Yo rfl|omega|(simp only[go_sem]<;>omega)|fail)only[go_sem,w1,w2,List.length_cons,List.length_nil]<;>try with_reducible rfl)|apply Yi|apply Yj|apply Yk|apply Yl|apply Ym|apply Yn)
  apply Ys
  ·simp -implicitDefEqProofs(maxSteps:=9^7)(disch:=first|exact Yo rfl|omega|(simp only[go_sem]<;>omega)|fail)only[go_sem,norm_eq,Ok.some]; with_reducible rfl
  exact ⟨by omega,rfl,trivial⟩
 | 1,_ =>
  repeat(first|apply Ya|apply Yb|apply Yc|((first|apply Yd|apply Ye|apply Yf|apply Yg|apply Yh);simp -implicitDefEqProofs(maxSteps:=9^7)(disch:=first|exact Yo rfl|omega|(simp only[go_sem]<;>omega)|fail)only[go_sem,w3,w4,List.length_cons,List.length_nil]<;>try with_reducible rfl)|apply Yi|apply Yj|apply Yk|apply Yl|apply Ym|apply Yn)
  apply Ys
  ·simp -implicitDefEqProofs(maxSteps:=9^7)(disch:=first|exact Yo rfl|omega|(simp only[go_sem]<;>omega)|fail)only[go_sem,norm_eq,Ok.some]; with_reducible rfl
  exact ⟨by omega,rfl,trivial⟩
 | 2,_ =>
  repeat(first|apply Ya|apply Yb|apply Yc|((first|apply Yd|apply Ye|apply Yf|apply Yg|apply Yh);simp -implicitDefEqProofs(maxSteps:=9^7)(disch:=first|exact Yo rfl|omega|(simp only[go_sem]<;>omega)|fail)only[go_sem,List.length_cons,List.length_nil]<;>try with_reducible rfl)|apply Yi|apply Yj|apply Yk|apply Yl|apply Ym|apply Yn)
  try rfl
theorem yCheck_ok {r0 f1 r1 fine cap : Int} (h : PriceOk r0 f1 r1 fine cap) : lim F 100 [priceV r0 f1 r1 fine cap] = some (iv 0,[]):=by
 have h1:=areRates_two h;have h2:=areParts_nil;have h3:=ywithin_in h.fine.1 h.fine.2;have h4:=areParts_in h.cap.1 h.cap.2;unfold priceV prV at *;refine Yr (fn:=a100) (k:=1) (res:=[.tmp 2]) rfl rfl rfl (by simp -implicitDefEqProofs(maxSteps:=9^7)(disch:=first|exact Yo rfl|omega|(simp only[go_sem]<;>omega)|fail)only[go_sem]) ?_
 try delta mvA
 try delta opA
 try delta tA
 simp -implicitDefEqProofs(maxSteps:=9^7)(disch:=first|exact Yo rfl|omega|(simp only[go_sem]<;>omega)|fail)only[go_sem]
 repeat(first|apply Ya|apply Yb|apply Yc|((first|apply Yd|apply Ye|apply Yf|apply Yg|apply Yh);simp -implicitDefEqProofs(maxSteps:=9^7)(disch:=first|exact Yo rfl|omega|(simp only[go_sem]<;>omega)|fail)only[go_sem,h1,h2,h3,h4,List.length_cons,List.length_nil]<;>try with_reducible rfl)|apply Yi|apply Yj|apply Yk|apply Yl|apply Ym|apply Yn)
theorem ycheck_ok (r0 f1 r1 fine cap : Int) {a c : Int} (ha : 0≤a∧a≤1000) (hc : 0≤c∧c≤1000000) : lim F 101 [priceV r0 f1 r1 fine cap,pieceV a c] = some (iv 0,[]):=by
 have h1:=ywithin_in (lo:=0) (hi:=50) (n:=0) (by omega) (by omega)
 have h2:=ywithin_in ha.1 ha.2;have h3:=ywithin_in hc.1 hc.2;have h4:=ywithin_in (lo:=0) (hi:=100) (n:=0) (by omega) (by omega)
 have h5:=ywithin_nilC 0 (-1);have h6:=ascend_nilC;unfold priceV prV pieceV at *;refine Yr (fn:=a101) (k:=2) (res:=[.tmp 4]) rfl rfl rfl (by simp -implicitDefEqProofs(maxSteps:=9^7)(disch:=first|exact Yo rfl|omega|(simp only[go_sem]<;>omega)|fail)only[go_sem]) ?_
 try delta mvA
 try delta opA
 try delta tA
 simp -implicitDefEqProofs(maxSteps:=9^7)(disch:=first|exact Yo rfl|omega|(simp only[go_sem]<;>omega)|fail)only[go_sem]
 repeat(first|apply Ya|apply Yb|apply Yc|((first|apply Yd|apply Ye|apply Yf|apply Yg|apply Yh);simp -implicitDefEqProofs(maxSteps:=9^7)(disch:=first|exact Yo rfl|omega|(simp only[go_sem]<;>omega)|fail)only[go_sem,nil_one,h1,h2,h3,h4,h5,h6,List.length_nil,show (((0 : Nat) : Int) - 1) = -1 from rfl]<;>try with_reducible rfl)|apply Yi|apply Yj|apply Yk|apply Yl|apply Ym|apply Yn)
theorem yopen_ok {r0 f1 r1 fine cap : Int} (h : PriceOk r0 f1 r1 fine cap) {a c : Int} (ha : 0≤a∧a≤1000) (hc : 0≤c∧c≤1000000) : lim F 64 [priceV r0 f1 r1 fine cap,pieceV a c] = some (.tuple [priceV r0 f1 r1 fine cap,iv 0],[]):=by
 have h1:=yCheck_ok h;have h2:=ycheck_ok r0 f1 r1 fine cap ha hc;unfold priceV prV pieceV at *;refine Yr (fn:=a64) (k:=2) (res:=[.cell 4 4 true,.tmp 5]) rfl rfl rfl (by simp -implicitDefEqProofs(maxSteps:=9^7)(disch:=first|exact Yo rfl|omega|(simp only[go_sem]<;>omega)|fail)only[go_sem]) ?_
 try delta mvA
 try delta opA
 try delta tA
 simp -implicitDefEqProofs(maxSteps:=9^7)(disch:=first|exact Yo rfl|omega|(simp only[go_sem]<;>omega)|fail)only[go_sem]
 repeat(first|apply Ya|apply Yb|apply Yc|((first|apply Yd|apply Ye|apply Yf|apply Yg|apply Yh);simp -implicitDefEqProofs(maxSteps:=9^7)(disch:=first|exact Yo rfl|omega|(simp only[go_sem]<;>omega)|fail)only[go_sem,nil_one,h1,h2]<;>try with_reducible rfl)|apply Yi|apply Yj|apply Yk|apply Yl|apply Ym|apply Yn)
theorem bsf_ok {r0 f1 r1 a : Int} (h1 : 1≤f1∧f1≤1000) (ha : 0≤a∧a≤1000) : ∃ (at' : Nat) (fd : Bool),lim F 136 [.list 2 (prV r0 f1 r1),iv a,.func 137 []] = some (.tuple [iv (at' : Int),.bool fd],[]) ∧
  (f1≤a → (fd = true∧at' = 1) ∨ (fd = false∧at' = 2))∧(a < f1 → (fd = true∧at' = 0) ∨ (fd = false∧at' = 1)):=by
 have b0:=byFrom_ok 0 r0 a;have b1:=byFrom_ok f1 r1 a;have m2 : IntKind.i64.wrap ((IntKind.u64.wrap 2).fdiv (2 ^ min 1 IntKind.u64.bits)) = 1:=by decide
 have m1 : IntKind.i64.wrap ((IntKind.u64.wrap 1).fdiv (2 ^ min 1 IntKind.u64.bits)) = 0:=by decide
 unfold prV;rcases Int.lt_trichotomy f1 a with c | c | c
 ·rw [if_pos c] at b1
  refine ⟨2,false,?_,fun _=>.inr ⟨rfl,rfl⟩,fun h=>by omega⟩
  refine Yr (fn:=a136) (k:=3) (res:=[.tmp 6,.tmp 7]) rfl rfl rfl (by simp -implicitDefEqProofs(maxSteps:=9^7)(disch:=first|exact Yo rfl|omega|(simp only[go_sem]<;>omega)|fail)only[go_sem]) ?_
  try delta mvA
  try delta opA
  try delta tA
  simp -implicitDefEqProofs(maxSteps:=9^7)(disch:=first|exact Yo rfl|omega|(simp only[go_sem]<;>omega)|fail)only[go_sem]
  repeat(first|apply Ya|apply Yb|apply Yc|((first|apply Yd|apply Ye|apply Yf|apply Yg|apply Yh);simp -implicitDefEqProofs(maxSteps:=9^7)(disch:=first|exact Yo rfl|omega|(simp only[go_sem]<;>omega)|fail)only[go_sem,List.length_cons,List.length_nil]<;>try with_reducible rfl)|apply Yi|apply Yj|apply Yk|apply Yl|apply Ym|apply Yn)
  apply Yt 1 (fun i=>⟨[(0,.list 2 [.agg [iv 0,iv r0],.agg [iv f1,iv r1]]),(1,iv a),(2,.func 137 []),(8,iv 2),(9,iv (if i = 0 then 0 else 2)),(10,iv (2))],[],[],10000000⟩) (fun _=>True)
  ·simp -implicitDefEqProofs(maxSteps:=9^7)(disch:=first|exact Yo rfl|omega|(simp only[go_sem]<;>omega)|fail)only[go_sem,norm_eq,Ok.some]
   try rfl
  ·trivial
  intro i hi _
  match i,hi with
  | 0,_ =>
   repeat(first|apply Ya|apply Yb|apply Yc|((first|apply Yd|apply Ye|apply Yf|apply Yg|apply Yh);simp -implicitDefEqProofs(maxSteps:=9^7)(disch:=first|exact Yo rfl|omega|(simp only[go_sem]<;>omega)|fail)only[go_sem,b1,m1,m2,List.length_cons,List.length_nil]<;>try with_reducible rfl)|apply Yi|apply Yj|apply Yk|apply Yl|apply Ym|apply Yn)
   apply block_norm;apply Ys
   ·simp -implicitDefEqProofs(maxSteps:=9^7)(disch:=first|exact Yo rfl|omega|(simp only[go_sem]<;>omega)|fail)only[go_sem,norm_eq,Ok.some]; with_reducible rfl
   exact ⟨by omega,rfl,trivial⟩
  | 1,_ =>
   repeat(first|apply Ya|apply Yb|apply Yc|((first|apply Yd|apply Ye|apply Yf|apply Yg|apply Yh);simp -implicitDefEqProofs(maxSteps:=9^7)(disch:=first|exact Yo rfl|omega|(simp only[go_sem]<;>omega)|fail)only[go_sem,b1,m1,m2,List.length_cons,List.length_nil]<;>try with_reducible rfl)|apply Yi|apply Yj|apply Yk|apply Yl|apply Ym|apply Yn)
   try rfl
 ·rw [if_neg (by omega),if_pos c] at b1
  rw [if_pos (by omega)] at b0
  refine ⟨1,true,?_,fun _=>.inl ⟨rfl,rfl⟩,fun h=>by omega⟩
  refine Yr (fn:=a136) (k:=3) (res:=[.tmp 6,.tmp 7]) rfl rfl rfl (by simp -implicitDefEqProofs(maxSteps:=9^7)(disch:=first|exact Yo rfl|omega|(simp only[go_sem]<;>omega)|fail)only[go_sem]) ?_
  try delta mvA
  try delta opA
  try delta tA
  simp -implicitDefEqProofs(maxSteps:=9^7)(disch:=first|exact Yo rfl|omega|(simp only[go_sem]<;>omega)|fail)only[go_sem]
  repeat(first|apply Ya|apply Yb|apply Yc|((first|apply Yd|apply Ye|apply Yf|apply Yg|apply Yh);simp -implicitDefEqProofs(maxSteps:=9^7)(disch:=first|exact Yo rfl|omega|(simp only[go_sem]<;>omega)|fail)only[go_sem,List.length_cons,List.length_nil]<;>try with_reducible rfl)|apply Yi|apply Yj|apply Yk|apply Yl|apply Ym|apply Yn)
  apply Yt 2 (fun i=>⟨[(0,.list 2 [.agg [iv 0,iv r0],.agg [iv f1,iv r1]]),(1,iv a),(2,.func 137 []),(8,iv 2),(9,iv (if i = 2 then 1 else 0)),(10,iv (if i = 0 then 2 else 1))],[],[],10000000⟩) (fun _=>True)
  ·simp -implicitDefEqProofs(maxSteps:=9^7)(disch:=first|exact Yo rfl|omega|(simp only[go_sem]<;>omega)|fail)only[go_sem,norm_eq,Ok.some]
   try rfl
  ·trivial
  intro i hi _
  match i,hi with
  | 0,_ =>
   repeat(first|apply Ya|apply Yb|apply Yc|((first|apply Yd|apply Ye|apply Yf|apply Yg|apply Yh);simp -implicitDefEqProofs(maxSteps:=9^7)(disch:=first|exact Yo rfl|omega|(simp only[go_sem]<;>omega)|fail)only[go_sem,b0,b1,m1,m2,List.length_cons,List.length_nil]<;>try with_reducible rfl)|apply Yi|apply Yj|apply Yk|apply Yl|apply Ym|apply Yn)
   apply block_norm;apply Ys
   ·simp -implicitDefEqProofs(maxSteps:=9^7)(disch:=first|exact Yo rfl|omega|(simp only[go_sem]<;>omega)|fail)only[go_sem,norm_eq,Ok.some]; with_reducible rfl
   exact ⟨by omega,rfl,trivial⟩
  | 1,_ =>
   repeat(first|apply Ya|apply Yb|apply Yc|((first|apply Yd|apply Ye|apply Yf|apply Yg|apply Yh);simp -implicitDefEqProofs(maxSteps:=9^7)(disch:=first|exact Yo rfl|omega|(simp only[go_sem]<;>omega)|fail)only[go_sem,b0,b1,m1,m2,List.length_cons,List.length_nil]<;>try with_reducible rfl)|apply Yi|apply Yj|apply Yk|apply Yl|apply Ym|apply Yn)
   apply block_norm;apply Ys
   ·simp -implicitDefEqProofs(maxSteps:=9^7)(disch:=first|exact Yo rfl|omega|(simp only[go_sem]<;>omega)|fail)only[go_sem,norm_eq,Ok.some]; with_reducible rfl
   exact ⟨by omega,rfl,trivial⟩
  | 2,_ =>
   repeat(first|apply Ya|apply Yb|apply Yc|((first|apply Yd|apply Ye|apply Yf|apply Yg|apply Yh);simp -implicitDefEqProofs(maxSteps:=9^7)(disch:=first|exact Yo rfl|omega|(simp only[go_sem]<;>omega)|fail)only[go_sem,b0,b1,m1,m2,List.length_cons,List.length_nil]<;>try with_reducible rfl)|apply Yi|apply Yj|apply Yk|apply Yl|apply Ym|apply Yn)
   try rfl
 ·rw [if_neg (by omega),if_neg (by omega)] at b1
  by_cases z : 0 < a
  ·rw [if_pos z] at b0
   refine ⟨1,false,?_,fun h=>by omega,fun _=>.inr ⟨rfl,rfl⟩⟩
   refine Yr (fn:=a136) (k:=3) (res:=[.tmp 6,.tmp 7]) rfl rfl rfl (by simp -implicitDefEqProofs(maxSteps:=9^7)(disch:=first|exact Yo rfl|omega|(simp only[go_sem]<;>omega)|fail)only[go_sem]) ?_
   try delta mvA
   try delta opA
   try delta tA
   simp -implicitDefEqProofs(maxSteps:=9^7)(disch:=first|exact Yo rfl|omega|(simp only[go_sem]<;>omega)|fail)only[go_sem]
   repeat(first|apply Ya|apply Yb|apply Yc|((first|apply Yd|apply Ye|apply Yf|apply Yg|apply Yh);simp -implicitDefEqProofs(maxSteps:=9^7)(disch:=first|exact Yo rfl|omega|(simp only[go_sem]<;>omega)|fail)only[go_sem,List.length_cons,List.length_nil]<;>try with_reducible rfl)|apply Yi|apply Yj|apply Yk|apply Yl|apply Ym|apply Yn)
   apply Yt 2 (fun i=>⟨[(0,.list 2 [.agg [iv 0,iv r0],.agg [iv f1,iv r1]]),(1,iv a),(2,.func 137 []),(8,iv 2),(9,iv (if i = 2 then 1 else 0)),(10,iv (if i = 0 then 2 else 1))],[],[],10000000⟩) (fun _=>True)
   ·simp -implicitDefEqProofs(maxSteps:=9^7)(disch:=first|exact Yo rfl|omega|(simp only[go_sem]<;>omega)|fail)only[go_sem,norm_eq,Ok.some]
    try rfl
   ·trivial
   intro i hi _
   match i,hi with
   | 0,_ =>
    repeat(first|apply Ya|apply Yb|apply Yc|((first|apply Yd|apply Ye|apply Yf|apply Yg|apply Yh);simp -implicitDefEqProofs(maxSteps:=9^7)(disch:=first|exact Yo rfl|omega|(simp only[go_sem]<;>omega)|fail)only[go_sem,b0,b1,m1,m2,List.length_cons,List.length_nil]<;>try with_reducible rfl)|apply Yi|apply Yj|apply Yk|apply Yl|apply Ym|apply Yn)
    apply block_norm;apply Ys
    ·simp -implicitDefEqProofs(maxSteps:=9^7)(disch:=first|exact Yo rfl|omega|(simp only[go_sem]<;>omega)|fail)only[go_sem,norm_eq,Ok.some]; with_reducible rfl
    exact ⟨by omega,rfl,trivial⟩
   | 1,_ =>
    repeat(first|apply Ya|apply Yb|apply Yc|((first|apply Yd|apply Ye|apply Yf|apply Yg|apply Yh);simp -implicitDefEqProofs(maxSteps:=9^7)(disch:=first|exact Yo rfl|omega|(simp only[go_sem]<;>omega)|fail)only[go_sem,b0,b1,m1,m2,List.length_cons,List.length_nil]<;>try with_reducible rfl)|apply Yi|apply Yj|apply Yk|apply Yl|apply Ym|apply Yn)
    apply block_norm;apply Ys
    ·simp -implicitDefEqProofs(maxSteps:=9^7)(disch:=first|exact Yo rfl|omega|(simp only[go_sem]<;>omega)|fail)only[go_sem,norm_eq,Ok.some]; with_reducible rfl
    exact ⟨by omega,rfl,trivial⟩
   | 2,_ =>
    repeat(first|apply Ya|apply Yb|apply Yc|((first|apply Yd|apply Ye|apply Yf|apply Yg|apply Yh);simp -implicitDefEqProofs(maxSteps:=9^7)(disch:=first|exact Yo rfl|omega|(simp only[go_sem]<;>omega)|fail)only[go_sem,b0,b1,m1,m2,List.length_cons,List.length_nil]<;>try with_reducible rfl)|apply Yi|apply Yj|apply Yk|apply Yl|apply Ym|apply Yn)
    try rfl
  ·obtain rfl : a = 0:=by omega
   rw [if_neg (by omega),if_pos rfl] at b0
   refine ⟨0,true,?_,fun h=>by omega,fun _=>.inl ⟨rfl,rfl⟩⟩
   refine Yr (fn:=a136) (k:=3) (res:=[.tmp 6,.tmp 7]) rfl rfl rfl (by simp -implicitDefEqProofs(maxSteps:=9^7)(disch:=first|exact Yo rfl|omega|(simp only[go_sem]<;>omega)|fail)only[go_sem]) ?_
   try delta mvA
   try delta opA
   try delta tA
   simp -implicitDefEqProofs(maxSteps:=9^7)(disch:=first|exact Yo rfl|omega|(simp only[go_sem]<;>omega)|fail)only[go_sem]
   repeat(first|apply Ya|apply Yb|apply Yc|((first|apply Yd|apply Ye|apply Yf|apply Yg|apply Yh);simp -implicitDefEqProofs(maxSteps:=9^7)(disch:=first|exact Yo rfl|omega|(simp only[go_sem]<;>omega)|fail)only[go_sem,List.length_cons,List.length_nil]<;>try with_reducible rfl)|apply Yi|apply Yj|apply Yk|apply Yl|apply Ym|apply Yn)
   apply Yt 2 (fun i=>⟨[(0,.list 2 [.agg [iv 0,iv r0],.agg [iv f1,iv r1]]),(1,iv 0),(2,.func 137 []),(8,iv 2),(9,iv (0)),(10,iv (if i = 0 then 2 else if i = 1 then 1 else 0))],[],[],10000000⟩) (fun _=>True)
   ·simp -implicitDefEqProofs(maxSteps:=9^7)(disch:=first|exact Yo rfl|omega|(simp only[go_sem]<;>omega)|fail)only[go_sem,norm_eq,Ok.some]
    try rfl
   ·trivial
   intro i hi _
   match i,hi with
   | 0,_ =>
    repeat(first|apply Ya|apply Yb|apply Yc|((first|apply Yd|apply Ye|apply Yf|apply Yg|apply Yh);simp -implicitDefEqProofs(maxSteps:=9^7)(disch:=first|exact Yo rfl|omega|(simp only[go_sem]<;>omega)|fail)only[go_sem,b0,b1,m1,m2,List.length_cons,List.length_nil]<;>try with_reducible rfl)|apply Yi|apply Yj|apply Yk|apply Yl|apply Ym|apply Yn)
    apply block_norm;apply Ys
    ·simp -implicitDefEqProofs(maxSteps:=9^7)(disch:=first|exact Yo rfl|omega|(simp only[go_sem]<;>omega)|fail)only[go_sem,norm_eq,Ok.some]; with_reducible rfl
    exact ⟨by omega,rfl,trivial⟩
   | 1,_ =>
    repeat(first|apply Ya|apply Yb|apply Yc|((first|apply Yd|apply Ye|apply Yf|apply Yg|apply Yh);simp -implicitDefEqProofs(maxSteps:=9^7)(disch:=first|exact Yo rfl|omega|(simp only[go_sem]<;>omega)|fail)only[go_sem,b0,b1,m1,m2,List.length_cons,List.length_nil]<;>try with_reducible rfl)|apply Yi|apply Yj|apply Yk|apply Yl|apply Ym|apply Yn)
    apply block_norm;apply Ys
    ·simp -implicitDefEqProofs(maxSteps:=9^7)(disch:=first|exact Yo rfl|omega|(simp only[go_sem]<;>omega)|fail)only[go_sem,norm_eq,Ok.some]; with_reducible rfl
    exact ⟨by omega,rfl,trivial⟩
   | 2,_ =>
    repeat(first|apply Ya|apply Yb|apply Yc|((first|apply Yd|apply Ye|apply Yf|apply Yg|apply Yh);simp -implicitDefEqProofs(maxSteps:=9^7)(disch:=first|exact Yo rfl|omega|(simp only[go_sem]<;>omega)|fail)only[go_sem,b0,b1,m1,m2,List.length_cons,List.length_nil]<;>try with_reducible rfl)|apply Yi|apply Yj|apply Yk|apply Yl|apply Ym|apply Yn)
    try rfl
theorem rate_ok {r0 f1 r1 fine cap a : Int} (h : PriceOk r0 f1 r1 fine cap) (ha : 0≤a∧a≤1000) : lim F 102 [priceV r0 f1 r1 fine cap,iv a] = some (iv (rateN f1 r0 r1 a),[]):=by
 obtain ⟨at',fd,hb,k1,k2⟩:=bsf_ok (r0:=r0) (r1:=r1) h.f1 ha;unfold rateN;unfold priceV;by_cases c : a < f1
 ·rw [if_pos c]
  rcases k2 c with ⟨rfl,rfl⟩ | ⟨rfl,rfl⟩
  ·unfold prV at *
   refine Yr (fn:=a102) (k:=2) (res:=[.tmp 4]) rfl rfl rfl (by simp -implicitDefEqProofs(maxSteps:=9^7)(disch:=first|exact Yo rfl|omega|(simp only[go_sem]<;>omega)|fail)only[go_sem]) ?_
   try delta mvA
   try delta opA
   try delta tA
   simp -implicitDefEqProofs(maxSteps:=9^7)(disch:=first|exact Yo rfl|omega|(simp only[go_sem]<;>omega)|fail)only[go_sem]
   repeat(first|apply Ya|apply Yb|apply Yc|((first|apply Yd|apply Ye|apply Yf|apply Yg|apply Yh);simp -implicitDefEqProofs(maxSteps:=9^7)(disch:=first|exact Yo rfl|omega|(simp only[go_sem]<;>omega)|fail)only[go_sem,hb,List.length_cons,List.length_nil]<;>try with_reducible rfl)|apply Yi|apply Yj|apply Yk|apply Yl|apply Ym|apply Yn)
   try rfl
  ·unfold prV at *
   refine Yr (fn:=a102) (k:=2) (res:=[.tmp 4]) rfl rfl rfl (by simp -implicitDefEqProofs(maxSteps:=9^7)(disch:=first|exact Yo rfl|omega|(simp only[go_sem]<;>omega)|fail)only[go_sem]) ?_
   try delta mvA
   try delta opA
   try delta tA
   simp -implicitDefEqProofs(maxSteps:=9^7)(disch:=first|exact Yo rfl|omega|(simp only[go_sem]<;>omega)|fail)only[go_sem]
   repeat(first|apply Ya|apply Yb|apply Yc|((first|apply Yd|apply Ye|apply Yf|apply Yg|apply Yh);simp -implicitDefEqProofs(maxSteps:=9^7)(disch:=first|exact Yo rfl|omega|(simp only[go_sem]<;>omega)|fail)only[go_sem,hb,List.length_cons,List.length_nil,show (((1 : Nat) : Int) - 1) = 0 from rfl,show (((2 : Nat) : Int) - 1) = 1 from rfl]<;>try with_reducible rfl)|apply Yi|apply Yj|apply Yk|apply Yl|apply Ym|apply Yn)
 ·rw [if_neg c]
  rcases k1 (by omega) with ⟨rfl,rfl⟩ | ⟨rfl,rfl⟩
  ·unfold prV at *
   refine Yr (fn:=a102) (k:=2) (res:=[.tmp 4]) rfl rfl rfl (by simp -implicitDefEqProofs(maxSteps:=9^7)(disch:=first|exact Yo rfl|omega|(simp only[go_sem]<;>omega)|fail)only[go_sem]) ?_
   try delta mvA
   try delta opA
   try delta tA
   simp -implicitDefEqProofs(maxSteps:=9^7)(disch:=first|exact Yo rfl|omega|(simp only[go_sem]<;>omega)|fail)only[go_sem]
   repeat(first|apply Ya|apply Yb|apply Yc|((first|apply Yd|apply Ye|apply Yf|apply Yg|apply Yh);simp -implicitDefEqProofs(maxSteps:=9^7)(disch:=first|exact Yo rfl|omega|(simp only[go_sem]<;>omega)|fail)only[go_sem,hb,List.length_cons,List.length_nil]<;>try with_reducible rfl)|apply Yi|apply Yj|apply Yk|apply Yl|apply Ym|apply Yn)
   try rfl
  ·unfold prV at *
   refine Yr (fn:=a102) (k:=2) (res:=[.tmp 4]) rfl rfl rfl (by simp -implicitDefEqProofs(maxSteps:=9^7)(disch:=first|exact Yo rfl|omega|(simp only[go_sem]<;>omega)|fail)only[go_sem]) ?_
   try delta mvA
   try delta opA
   try delta tA
   simp -implicitDefEqProofs(maxSteps:=9^7)(disch:=first|exact Yo rfl|omega|(simp only[go_sem]<;>omega)|fail)only[go_sem]
   repeat(first|apply Ya|apply Yb|apply Yc|((first|apply Yd|apply Ye|apply Yf|apply Yg|apply Yh);simp -implicitDefEqProofs(maxSteps:=9^7)(disch:=first|exact Yo rfl|omega|(simp only[go_sem]<;>omega)|fail)only[go_sem,hb,List.length_cons,List.length_nil,show (((1 : Nat) : Int) - 1) = 0 from rfl,show (((2 : Nat) : Int) - 1) = 1 from rfl]<;>try with_reducible rfl)|apply Yi|apply Yj|apply Yk|apply Yl|apply Ym|apply Yn)
def earnN (c r : Int) : Int:=c * r * 1000 / 1000000
theorem earn_in {c r : Int} (hc : 0≤c∧c≤1000000) (hr : 0≤r∧r≤10000) : (0≤c * r∧c * r≤10000000000)∧0≤earnN c r∧earnN c r≤10000000:=by
 have h1:=Int.mul_nonneg hc.1 hr.1;have h2:=Int.mul_le_mul hc.2 hr.2 hr.1 (by omega)
 unfold earnN;generalize c * r = q at *;omega
theorem rate_in {r0 f1 r1 fine cap : Int} (h : PriceOk r0 f1 r1 fine cap) (a : Int) : 0≤rateN f1 r0 r1 a∧rateN f1 r0 r1 a≤10000:=by
 unfold rateN;have:=h.r0;have:=h.r1;split <;> omega
theorem earned_ok {r0 f1 r1 fine cap a c : Int} (h : PriceOk r0 f1 r1 fine cap) (ha : 0≤a∧a≤1000) (hc : 0≤c∧c≤1000000) : lim F 65 [priceV r0 f1 r1 fine cap,pieceV a c] = some (iv (earnN c (rateN f1 r0 r1 a)),[]):=by
 have h1:=rate_ok h ha;have h2:=earn_in hc (rate_in h a);have h3 : Int.tdiv (c * rateN f1 r0 r1 a * 1000) 1000000 = earnN c (rateN f1 r0 r1 a):=Int.tdiv_eq_ediv_of_nonneg (by omega)
 generalize rateN f1 r0 r1 a = r at *;unfold priceV prV pieceV at *;refine Yr (fn:=a65) (k:=2) (res:=[.tmp 4]) rfl rfl rfl (by simp -implicitDefEqProofs(maxSteps:=9^7)(disch:=first|exact Yo rfl|omega|(simp only[go_sem]<;>omega)|fail)only[go_sem]) ?_
 try delta mvA
 try delta opA
 try delta tA
 simp -implicitDefEqProofs(maxSteps:=9^7)(disch:=first|exact Yo rfl|omega|(simp only[go_sem]<;>omega)|fail)only[go_sem]
 repeat(first|apply Ya|apply Yb|apply Yc|((first|apply Yd|apply Ye|apply Yf|apply Yg|apply Yh);simp -implicitDefEqProofs(maxSteps:=9^7)(disch:=first|exact Yo rfl|omega|(simp only[go_sem]<;>omega)|fail)only[go_sem,nil_one]<;>try with_reducible rfl)|apply Yi|apply Yj|apply Yk|apply Yl|apply Ym|apply Yn)
 apply Yt 0 (fun i=>⟨[(2,.ptr 128 0 0),(3,.ptr 192 0 0),(5,iv 1000),(9,nilC),(10,iv 0),(11,iv (i : Int))],[(128,.box [.list 2 [.agg [iv 0,iv r0],.agg [iv f1,iv r1]],.list 1 [],iv fine,iv cap]),(192,.box [iv 0,iv a,iv c,nilC,iv 0])],[],10000000⟩) (fun _=>True)
 ·simp -implicitDefEqProofs(maxSteps:=9^7)(disch:=first|exact Yo rfl|omega|(simp only[go_sem]<;>omega)|fail)only[go_sem,norm_eq,Ok.some]
  try rfl
 ·trivial
 intro i hi _;obtain rfl : i = 0:=by omega
 repeat(first|apply Ya|apply Yb|apply Yc|((first|apply Yd|apply Ye|apply Yf|apply Yg|apply Yh);simp -implicitDefEqProofs(maxSteps:=9^7)(disch:=first|exact Yo rfl|omega|(simp only[go_sem]<;>omega)|fail)only[go_sem,Int.lt_irrefl,nil_one,h1,h3]<;>try with_reducible rfl)|apply Yi|apply Yj|apply Yk|apply Yl|apply Ym|apply Yn)
 try rfl
theorem fines_ok {r0 f1 r1 fine cap E : Int} (h : PriceOk r0 f1 r1 fine cap) (hE : 0≤E∧E≤10000000) : lim F 66 [priceV r0 f1 r1 fine cap,iv E,iv 0] = some (iv 0,[]):=by
 have h1:=Int.mul_nonneg hE.1 h.cap.1;have h2:=Int.mul_le_mul hE.2 h.cap.2 h.cap.1 (by omega)
 have h3 : Int.tdiv (E * cap) 1000 = E * cap / 1000:=Int.tdiv_eq_ediv_of_nonneg h1;have h4 : min 0 (E * cap / 1000) = 0:=by
  generalize E * cap = q at *;omega
 have hf:=h.fine;unfold priceV prV at *;refine Yr (fn:=a66) (k:=3) (res:=[.tmp 6]) rfl rfl rfl (by simp -implicitDefEqProofs(maxSteps:=9^7)(disch:=first|exact Yo rfl|omega|(simp only[go_sem]<;>omega)|fail)only[go_sem]) ?_
 try delta mvA
 try delta opA
 try delta tA
 simp -implicitDefEqProofs(maxSteps:=9^7)(disch:=first|exact Yo rfl|omega|(simp only[go_sem]<;>omega)|fail)only[go_sem]
 repeat(first|apply Ya|apply Yb|apply Yc|((first|apply Yd|apply Ye|apply Yf|apply Yg|apply Yh);simp -implicitDefEqProofs(maxSteps:=9^7)(disch:=first|exact Yo rfl|omega|(simp only[go_sem]<;>omega)|fail)only[go_sem,Int.zero_mul,h3,h4]<;>try with_reducible rfl)|apply Yi|apply Yj|apply Yk|apply Yl|apply Ym|apply Yn)
theorem wage_ok {r0 f1 r1 fine cap a c : Int} (h : PriceOk r0 f1 r1 fine cap) (ha : 0≤a∧a≤1000) (hc : 0≤c∧c≤1000000) : lim F 67 [priceV r0 f1 r1 fine cap,pieceV a c,iv 0] = some (iv (earnN c (rateN f1 r0 r1 a)),[]):=by
 have h1:=earned_ok h ha hc;have h2:=(earn_in hc (rate_in h a)).2;have h3:=fines_ok h h2;generalize earnN c (rateN f1 r0 r1 a) = E at *;unfold priceV prV pieceV at *;refine Yr (fn:=a67) (k:=3) (res:=[.tmp 6]) rfl rfl rfl (by simp -implicitDefEqProofs(maxSteps:=9^7)(disch:=first|exact Yo rfl|omega|(simp only[go_sem]<;>omega)|fail)only[go_sem]) ?_
 try delta mvA
 try delta opA
 try delta tA
 simp -implicitDefEqProofs(maxSteps:=9^7)(disch:=first|exact Yo rfl|omega|(simp only[go_sem]<;>omega)|fail)only[go_sem]
 repeat(first|apply Ya|apply Yb|apply Yc|((first|apply Yd|apply Ye|apply Yf|apply Yg|apply Yh);simp -implicitDefEqProofs(maxSteps:=9^7)(disch:=first|exact Yo rfl|omega|(simp only[go_sem]<;>omega)|fail)only[go_sem,nil_one,h1,h3,Int.sub_zero]<;>try with_reducible rfl)|apply Yi|apply Yj|apply Yk|apply Yl|apply Ym|apply Yn)
theorem Wage_ok {r0 f1 r1 fine cap a c : Int} (h : PriceOk r0 f1 r1 fine cap) (ha : 0≤a∧a≤1000) (hc : 0≤c∧c≤1000000) : lim F 30 [priceV r0 f1 r1 fine cap,pieceV a c] = some (.tuple [iv (earnN c (rateN f1 r0 r1 a)),iv 0,iv (earnN c (rateN f1 r0 r1 a)),iv 0],[]):=by
 have h0:=yopen_ok h ha hc;have h1:=earned_ok h ha hc;have h2:=(earn_in hc (rate_in h a)).2;have h3:=fines_ok h h2;have h4:=wage_ok h ha hc;generalize earnN c (rateN f1 r0 r1 a) = E at *;unfold priceV prV pieceV at *;refine Yr (fn:=a30) (k:=2) (res:=[.tmp 4,.tmp 5,.tmp 6,.tmp 7]) rfl rfl rfl (by simp -implicitDefEqProofs(maxSteps:=9^7)(disch:=first|exact Yo rfl|omega|(simp only[go_sem]<;>omega)|fail)only[go_sem]) ?_
 try delta mvA
 try delta opA
 try delta tA
 simp -implicitDefEqProofs(maxSteps:=9^7)(disch:=first|exact Yo rfl|omega|(simp only[go_sem]<;>omega)|fail)only[go_sem]
 repeat(first|apply Ya|apply Yb|apply Yc|((first|apply Yd|apply Ye|apply Yf|apply Yg|apply Yh);simp -implicitDefEqProofs(maxSteps:=9^7)(disch:=first|exact Yo rfl|omega|(simp only[go_sem]<;>omega)|fail)only[go_sem,nil_one,h0,h1,h3,h4]<;>try with_reducible rfl)|apply Yi|apply Yj|apply Yk|apply Yl|apply Ym|apply Yn)
theorem earn_mono {c d r s : Int} (h1 : d≤c) (h2 : s≤r) (hd : 0≤d) (hs : 0≤s) : earnN d s≤earnN c r:=by
 unfold earnN;have h3:=Int.mul_le_mul h1 h2 hs (by omega)
 omega
end Go.Abs
