/-
 Several texts: ZS20, ZS21, ZS22, ZS23, ZS24, ZS25, ZS26, ZS27.
-/
import Derived.Test.YtlcikiobkmajbaaZS5
import Derived.Test.YtlcikiobkmajbaaWpE
import Derived.Test.YtlcikiobkmajbaaBits
set_option linter.all false
namespace Go.Abs.Seam
set_option maxRecDepth 10000
set_option maxHeartbeats 1000000
structure Cut where
 b : Int
 p : Int
def Cut.av (c : Cut) : AV:=.agg [iv c.b,iv c.p]
abbrev CutBad (r : Int) (c : Cut) : Prop:=¬ (1 ≤ c.p ∧ c.p ≤ 200) ∨ ¬ (0 ≤ c.b ∧ c.b ≤ r - 1)
open Classical in
noncomputable def cutsE (r : Int) (bad : List Int) (l : List Cut) : Int :=
 if ¬ (1 ≤ r ∧ r ≤ 100) then 3 else if 40 < bad.length ∨ 8 < l.length then 5 else if (bad.all fun n => decide (0 ≤ n ∧ n ≤ 100000)) = false then 2
 else if (l.any fun c => decide (CutBad r c)) = true then 2 else if ∃ i : Nat,i + 1 < bad.length ∧ bad[i + 1]?.getD 0 ≤ bad[i]?.getD 0 then 6 else 0
structure CutsOk (r : Int) (bad : List Int) (l : List Cut) : Prop where
 rr : 1 ≤ r ∧ r ≤ 100
 lb : bad.length ≤ 40
 ll : l.length ≤ 8
 bb : ∀ b ∈ bad,0 ≤ b ∧ b ≤ 100000
 cc : ∀ c ∈ l,(1 ≤ c.p ∧ c.p ≤ 200) ∧ (0 ≤ c.b ∧ c.b ≤ r - 1)
theorem cutsE_zero {r : Int} {bad : List Int} {l : List Cut} (h : cutsE r bad l = 0) : CutsOk r bad l:=by
 unfold cutsE at h;by_cases h1 : 1 ≤ r ∧ r ≤ 100
 ·rw [if_neg (by simp [h1])] at h
  by_cases h2 : 40 < bad.length ∨ 8 < l.length
  ·rw [if_pos h2] at h; omega
  ·rw [if_neg h2] at h
   by_cases h3 : (bad.all fun n => decide (0 ≤ n ∧ n ≤ 100000)) = false
   ·rw [if_pos h3] at h; omega
   ·rw [if_neg h3] at h
    by_cases h4 : (l.any fun c => decide (CutBad r c)) = true
    ·rw [if_pos h4] at h; omega
    ·refine ⟨h1,by omega,by omega,fun b hb => ?_,fun c hc => ?_⟩
     ·rw [Bool.not_eq_false,List.all_eq_true] at h3
      exact of_decide_eq_true (h3 b hb)
     ·rw [Bool.not_eq_true,List.any_eq_false] at h4
      have:=h4 c hc;simp only [decide_eq_true_eq,CutBad] at this;omega
 ·rw [if_pos h1] at h; omega
end Go.Abs.Seam
set_option linter.all false
namespace Go.Abs.Seam
set_option maxRecDepth 10000
set_option maxHeartbeats 1000000
theorem tailor1_ok (c : Cut) (r : Int) (hr : 1 ≤ r ∧ r ≤ 100) : lim F 84 [.agg [iv c.b,iv c.p],.iptr (.agg [iv r]) 0] = some (.bool (decide (CutBad r c)),[]):=by
 have w1:=within_ok 1 200 [c.p] (by simp)
 have w2:=within_ok 0 (r - 1) [c.b] (by simp)
 simp only [List.map_cons,List.map_nil,List.all_cons,List.all_nil,Bool.and_true] at w1 w2;by_cases h1 : 1 ≤ c.p ∧ c.p ≤ 200
 ·by_cases h2 : 0 ≤ c.b ∧ c.b ≤ r - 1
  all_goals
   refine Yr (fn:=a84) (k:=2) (res:=[.tmp 3]) rfl rfl rfl (by simp -implicitDefEqProofs(maxSteps:=9^7)(disch:=first|exact Yo rfl|omega|(simp only[go_sem]<;>omega)|fail)only[go_sem]) ?_
   try delta mvA
   try delta opA
   try delta tA
   simp -implicitDefEqProofs(maxSteps:=9^7)(disch:=first|exact Yo rfl|omega|(simp only[go_sem]<;>omega)|fail)only[go_sem]
   repeat(first|apply Ya|apply Yb|apply Yc|((first|apply Yd|apply Ye|apply Yf|apply Yg|apply Yh);simp -implicitDefEqProofs(maxSteps:=9^7)(disch:=first|exact Yo rfl|omega|(simp only[go_sem]<;>omega)|fail)only[go_sem,w1,w2,h1,h2]<;>try with_reducible rfl)|apply Yi|apply Yj|apply Yk|apply Yl|apply Ym|apply Yn)
   simp [CutBad,h1,h2]
 ·refine Yr (fn:=a84) (k:=2) (res:=[.tmp 3]) rfl rfl rfl (by simp -implicitDefEqProofs(maxSteps:=9^7)(disch:=first|exact Yo rfl|omega|(simp only[go_sem]<;>omega)|fail)only[go_sem]) ?_
  try delta mvA
  try delta opA
  try delta tA
  simp -implicitDefEqProofs(maxSteps:=9^7)(disch:=first|exact Yo rfl|omega|(simp only[go_sem]<;>omega)|fail)only[go_sem]
  repeat(first|apply Ya|apply Yb|apply Yc|((first|apply Yd|apply Ye|apply Yf|apply Yg|apply Yh);simp -implicitDefEqProofs(maxSteps:=9^7)(disch:=first|exact Yo rfl|omega|(simp only[go_sem]<;>omega)|fail)only[go_sem,w1,w2,h1]<;>try with_reducible rfl)|apply Yi|apply Yj|apply Yk|apply Yl|apply Ym|apply Yn)
  simp [CutBad,h1]
theorem index_cuts (l : List Cut) (p : Cut → Bool) (f : Nat) (x : AV) (hl : l.length < 1000000000) (hp : ∀ n ∈ l,lim F f [.agg [iv n.b,iv n.p],.iptr x 0] = some (.bool (p n),[])) :
  lim F 118 [.list 2 (l.map Cut.av),.func f [.iptr x 0]] = some (iv (idxF p l),[]):=by
 refine Yr (fn:=a118) (k:=2) (res:=[.tmp 4]) rfl rfl rfl (by simp -implicitDefEqProofs(maxSteps:=9^7)(disch:=first|exact Yo rfl|omega|(simp only[go_sem]<;>omega)|fail)only[go_sem]) ?_
 try delta mvA
 try delta opA
 try delta tA
 simp -implicitDefEqProofs(maxSteps:=9^7)(disch:=first|exact Yo rfl|omega|(simp only[go_sem]<;>omega)|fail)only[go_sem]
 repeat(first|apply Ya|apply Yb|apply Yc|((first|apply Yd|apply Ye|apply Yf|apply Yg|apply Yh);simp -implicitDefEqProofs(maxSteps:=9^7)(disch:=first|exact Yo rfl|omega|(simp only[go_sem]<;>omega)|fail)only[go_sem]<;>try with_reducible rfl)|apply Yi|apply Yj|apply Yk|apply Yl|apply Ym|apply Yn)
 apply Yt l.length (fun i => ⟨[(0,.list 2 (l.map Cut.av)),(1,.func f [.iptr x 0]),(7,iv l.length),(8,iv i)],[],[],10000000⟩) (fun i => ∀ j (hj : j < l.length),j < i → p l[j] = false)
 ·simp -implicitDefEqProofs(maxSteps:=9^7)(disch:=first|exact Yo rfl|omega|(simp only[go_sem]<;>omega)|fail)only[go_sem,norm_eq,Ok.some]
  try rfl
 ·intro j hj h; omega
 intro i hi hn;by_cases h : i < l.length
 ·have hc:=hp l[i] (List.getElem_mem h)
  cases hb : p l[i] with
  | true =>
   rw [hb] at hc;repeat(first|apply Ya|apply Yb|apply Yc|((first|apply Yd|apply Ye|apply Yf|apply Yg|apply Yh);simp -implicitDefEqProofs(maxSteps:=9^7)(disch:=first|exact Yo rfl|omega|(simp only[go_sem]<;>omega)|fail)only[go_sem,h,List.getElem?_map,List.getElem?_eq_getElem h,Option.map_some,hc,Int.ofNat_lt,Cut.av.eq_1]<;>try with_reducible rfl)|apply Yi|apply Yj|apply Yk|apply Yl|apply Ym|apply Yn)
   rw [idxF_at h hb hn]
  | false =>
   rw [hb] at hc;repeat(first|apply Ya|apply Yb|apply Yc|((first|apply Yd|apply Ye|apply Yf|apply Yg|apply Yh);simp -implicitDefEqProofs(maxSteps:=9^7)(disch:=first|exact Yo rfl|omega|(simp only[go_sem]<;>omega)|fail)only[go_sem,h,List.getElem?_map,List.getElem?_eq_getElem h,Option.map_some,hc,Int.ofNat_lt,Cut.av.eq_1]<;>try with_reducible rfl)|apply Yi|apply Yj|apply Yk|apply Yl|apply Ym|apply Yn)
   apply Ys
   ·simp -implicitDefEqProofs(maxSteps:=9^7)(disch:=first|exact Yo rfl|omega|(simp only[go_sem]<;>omega)|fail)only[go_sem,norm_eq,Ok.some]; with_reducible rfl
   refine ⟨h,by simp,fun j hj hji => ?_⟩
   by_cases e : j = i
   ·subst e; exact hb
   ·exact hn j hj (by omega)
 ·repeat(first|apply Ya|apply Yb|apply Yc|((first|apply Yd|apply Ye|apply Yf|apply Yg|apply Yh);simp -implicitDefEqProofs(maxSteps:=9^7)(disch:=first|exact Yo rfl|omega|(simp only[go_sem]<;>omega)|fail)only[go_sem,h,Int.ofNat_lt]<;>try with_reducible rfl)|apply Yi|apply Yj|apply Yk|apply Yl|apply Ym|apply Yn)
  rw [idxF_no fun j hj => hn j hj (by omega)]
theorem contains_cuts (l : List Cut) (p : Cut → Bool) (f : Nat) (x : AV) (hl : l.length < 1000000000) (hp : ∀ n ∈ l,lim F f [.agg [iv n.b,iv n.p],.iptr x 0] = some (.bool (p n),[])) :
  lim F 85 [.list 2 (l.map Cut.av),.func f [.iptr x 0]] = some (.bool (l.any p),[]):=by
 have h:=index_cuts l p f x hl hp;refine Yr (fn:=a85) (k:=2) (res:=[.tmp 4]) rfl rfl rfl (by simp -implicitDefEqProofs(maxSteps:=9^7)(disch:=first|exact Yo rfl|omega|(simp only[go_sem]<;>omega)|fail)only[go_sem]) ?_
 try delta mvA
 try delta opA
 try delta tA
 simp -implicitDefEqProofs(maxSteps:=9^7)(disch:=first|exact Yo rfl|omega|(simp only[go_sem]<;>omega)|fail)only[go_sem]
 repeat(first|apply Ya|apply Yb|apply Yc|((first|apply Yd|apply Ye|apply Yf|apply Yg|apply Yh);simp -implicitDefEqProofs(maxSteps:=9^7)(disch:=first|exact Yo rfl|omega|(simp only[go_sem]<;>omega)|fail)only[go_sem,h,idxF_ge]<;>try with_reducible rfl)|apply Yi|apply Yj|apply Yk|apply Yl|apply Ym|apply Yn)
def tailorV (r : Int) (bad : List Int) (l : List Cut) : AV:=.agg [iv r,.list 1 (bad.map fun n => iv n),.list 2 (l.map Cut.av)]
def tailor0 : AV:=.agg [iv 0,.own 1 [],.own 2 []]
open Classical in
theorem newTailor_ok (r : Int) (bad : List Int) (l : List Cut) : lim F 50 [iv r,.list 1 (bad.map fun n => iv n),.list 2 (l.map Cut.av)] =
  some (.tuple [if cutsE r bad l = 0 then tailorV r bad l else tailor0,iv (cutsE r bad l)],[]):=by
 unfold tailorV tailor0;generalize he : cutsE r bad l = e;unfold cutsE at he;have w1:=within_ok 1 100 [r] (by simp)
 simp only [List.map_cons,List.map_nil,List.all_cons,List.all_nil,Bool.and_true] at w1;by_cases h1 : 1 ≤ r ∧ r ≤ 100
 ·rw [decide_eq_true h1] at w1
  rw [if_neg (by simp [h1])] at he
  by_cases h2 : 40 < bad.length ∨ 8 < l.length
  ·rw [if_pos h2] at he; subst he
   by_cases h3 : 40 < bad.length
   ·refine Yr (fn:=a50) (k:=3) (res:=[.cell 6 3 true,.tmp 7]) rfl rfl rfl (by simp -implicitDefEqProofs(maxSteps:=9^7)(disch:=first|exact Yo rfl|omega|(simp only[go_sem]<;>omega)|fail)only[go_sem]) ?_
    try delta mvA
    try delta opA
    try delta tA
    simp -implicitDefEqProofs(maxSteps:=9^7)(disch:=first|exact Yo rfl|omega|(simp only[go_sem]<;>omega)|fail)only[go_sem]
    repeat(first|apply Ya|apply Yb|apply Yc|((first|apply Yd|apply Ye|apply Yf|apply Yg|apply Yh);simp -implicitDefEqProofs(maxSteps:=9^7)(disch:=first|exact Yo rfl|omega|(simp only[go_sem]<;>omega)|fail)only[go_sem,w1,show (40 : Int) < bad.length by omega]<;>try with_reducible rfl)|apply Yi|apply Yj|apply Yk|apply Yl|apply Ym|apply Yn)
    try rfl
   ·refine Yr (fn:=a50) (k:=3) (res:=[.cell 6 3 true,.tmp 7]) rfl rfl rfl (by simp -implicitDefEqProofs(maxSteps:=9^7)(disch:=first|exact Yo rfl|omega|(simp only[go_sem]<;>omega)|fail)only[go_sem]) ?_
    try delta mvA
    try delta opA
    try delta tA
    simp -implicitDefEqProofs(maxSteps:=9^7)(disch:=first|exact Yo rfl|omega|(simp only[go_sem]<;>omega)|fail)only[go_sem]
    repeat(first|apply Ya|apply Yb|apply Yc|((first|apply Yd|apply Ye|apply Yf|apply Yg|apply Yh);simp -implicitDefEqProofs(maxSteps:=9^7)(disch:=first|exact Yo rfl|omega|(simp only[go_sem]<;>omega)|fail)only[go_sem,w1,show ¬ (40 : Int) < bad.length by omega,show (8 : Int) < l.length by omega]<;>try with_reducible rfl)|apply Yi|apply Yj|apply Yk|apply Yl|apply Ym|apply Yn)
    try rfl
  ·have k1 : ¬ (40 : Int) < bad.length:=by omega
   have k2 : ¬ (8 : Int) < l.length:=by omega
   rw [if_neg h2] at he;have hb40 : bad.length ≤ 40:=by omega
   have hl8 : l.length ≤ 8:=by omega
   clear h2;have w2:=within_ok 0 100000 bad (by omega)
   by_cases h3 : (bad.all fun n => decide (0 ≤ n ∧ n ≤ 100000)) = false
   ·rw [if_pos h3] at he; subst he
    rw [h3] at w2;refine Yr (fn:=a50) (k:=3) (res:=[.cell 6 3 true,.tmp 7]) rfl rfl rfl (by simp -implicitDefEqProofs(maxSteps:=9^7)(disch:=first|exact Yo rfl|omega|(simp only[go_sem]<;>omega)|fail)only[go_sem]) ?_
    try delta mvA
    try delta opA
    try delta tA
    simp -implicitDefEqProofs(maxSteps:=9^7)(disch:=first|exact Yo rfl|omega|(simp only[go_sem]<;>omega)|fail)only[go_sem]
    repeat(first|apply Ya|apply Yb|apply Yc|((first|apply Yd|apply Ye|apply Yf|apply Yg|apply Yh);simp -implicitDefEqProofs(maxSteps:=9^7)(disch:=first|exact Yo rfl|omega|(simp only[go_sem]<;>omega)|fail)only[go_sem,w1,k1,k2,w2]<;>try with_reducible rfl)|apply Yi|apply Yj|apply Yk|apply Yl|apply Ym|apply Yn)
    try rfl
   ·rw [if_neg h3] at he
    rw [Bool.not_eq_false] at h3;rw [h3] at w2;have w3:=contains_cuts l (fun c => decide (CutBad r c)) 84 (.agg [iv r]) (by omega) fun c _ => tailor1_ok c r h1
    by_cases h4 : (l.any fun c => decide (CutBad r c)) = true
    ·rw [if_pos h4] at he; subst he
     rw [h4] at w3;refine Yr (fn:=a50) (k:=3) (res:=[.cell 6 3 true,.tmp 7]) rfl rfl rfl (by simp -implicitDefEqProofs(maxSteps:=9^7)(disch:=first|exact Yo rfl|omega|(simp only[go_sem]<;>omega)|fail)only[go_sem]) ?_
     try delta mvA
     try delta opA
     try delta tA
     simp -implicitDefEqProofs(maxSteps:=9^7)(disch:=first|exact Yo rfl|omega|(simp only[go_sem]<;>omega)|fail)only[go_sem]
     repeat(first|apply Ya|apply Yb|apply Yc|((first|apply Yd|apply Ye|apply Yf|apply Yg|apply Yh);simp -implicitDefEqProofs(maxSteps:=9^7)(disch:=first|exact Yo rfl|omega|(simp only[go_sem]<;>omega)|fail)only[go_sem,w1,k1,k2,w2,w3]<;>try with_reducible rfl)|apply Yi|apply Yj|apply Yk|apply Yl|apply Ym|apply Yn)
     try rfl
    ·rw [if_neg h4] at he
     rw [Bool.not_eq_true] at h4;rw [h4] at w3;refine Yr (fn:=a50) (k:=3) (res:=[.cell 6 3 true,.tmp 7]) rfl rfl rfl (by simp -implicitDefEqProofs(maxSteps:=9^7)(disch:=first|exact Yo rfl|omega|(simp only[go_sem]<;>omega)|fail)only[go_sem]) ?_
     try delta mvA
     try delta opA
     try delta tA
     simp -implicitDefEqProofs(maxSteps:=9^7)(disch:=first|exact Yo rfl|omega|(simp only[go_sem]<;>omega)|fail)only[go_sem]
     repeat(first|apply Ya|apply Yb|apply Yc|((first|apply Yd|apply Ye|apply Yf|apply Yg|apply Yh);simp -implicitDefEqProofs(maxSteps:=9^7)(disch:=first|exact Yo rfl|omega|(simp only[go_sem]<;>omega)|fail)only[go_sem,w1,k1,k2,w2,w3]<;>try with_reducible rfl)|apply Yi|apply Yj|apply Yk|apply Yl|apply Ym|apply Yn)
     apply Yt bad.length (fun i => ⟨[(1,.list 1 (bad.map fun n => iv n)),(2,.list 2 (l.map Cut.av)),(3,.ptr 192 0 0),(6,.ptr 384 0 0),(34,iv bad.length),(35,iv i)],
      [(192,.box [iv r]),(384,.box [iv 0,.slice 306145 0 0,.slice 306146 0 0]),(306145,.arr 1 []),(306146,.arr 2 [])],[],10000000⟩) (fun i => ∀ j,j + 1 < bad.length → j + 1 < i → ¬ bad[j + 1]?.getD 0 ≤ bad[j]?.getD 0)
     ·simp -implicitDefEqProofs(maxSteps:=9^7)(disch:=first|exact Yo rfl|omega|(simp only[go_sem]<;>omega)|fail)only[go_sem,norm_eq,Ok.some]
      try rfl
     ·intro j hj h; omega
     intro i hi hok;by_cases h : i < bad.length
     ·have x1 : bad[i]? = some bad[i]:=List.getElem?_eq_getElem h
      cases i with
      | zero =>
       repeat(first|apply Ya|apply Yb|apply Yc|((first|apply Yd|apply Ye|apply Yf|apply Yg|apply Yh);simp -implicitDefEqProofs(maxSteps:=9^7)(disch:=first|exact Yo rfl|omega|(simp only[go_sem]<;>omega)|fail)only[go_sem,show (0 : Int) < bad.length by omega,List.getElem?_map,x1,Option.map_some]<;>try with_reducible rfl)|apply Yi|apply Yj|apply Yk|apply Yl|apply Ym|apply Yn)
       apply Ys
       ·simp -implicitDefEqProofs(maxSteps:=9^7)(disch:=first|exact Yo rfl|omega|(simp only[go_sem]<;>omega)|fail)only[go_sem,norm_eq,Ok.some]; with_reducible rfl
       exact ⟨h,by simp,fun j _ hj => by omega⟩
      | succ i =>
       have x2 : bad[i]? = some bad[i]:=List.getElem?_eq_getElem (by omega)
       by_cases q : bad[i + 1] ≤ bad[i]
       ·rw [if_pos ⟨i,h,by simpa [x1,x2] using q⟩] at he; subst he
        repeat(first|apply Ya|apply Yb|apply Yc|((first|apply Yd|apply Ye|apply Yf|apply Yg|apply Yh);simp -implicitDefEqProofs(maxSteps:=9^7)(disch:=first|exact Yo rfl|omega|(simp only[go_sem]<;>omega)|fail)only[go_sem,show ((i + 1 : Nat) : Int) < bad.length by omega,show (0 : Int) < ((i + 1 : Nat) : Int) by omega,List.getElem?_map,x1,x2,Option.map_some,q,show (((i + 1 : Nat) : Int) - 1).toNat = i by omega]<;>try with_reducible rfl)|apply Yi|apply Yj|apply Yk|apply Yl|apply Ym|apply Yn)
        try rfl
       ·repeat(first|apply Ya|apply Yb|apply Yc|((first|apply Yd|apply Ye|apply Yf|apply Yg|apply Yh);simp -implicitDefEqProofs(maxSteps:=9^7)(disch:=first|exact Yo rfl|omega|(simp only[go_sem]<;>omega)|fail)only[go_sem,show ((i + 1 : Nat) : Int) < bad.length by omega,show (0 : Int) < ((i + 1 : Nat) : Int) by omega,List.getElem?_map,x1,x2,Option.map_some,q,show (((i + 1 : Nat) : Int) - 1).toNat = i by omega]<;>try with_reducible rfl)|apply Yi|apply Yj|apply Yk|apply Yl|apply Ym|apply Yn)
        apply Ys
        ·simp -implicitDefEqProofs(maxSteps:=9^7)(disch:=first|exact Yo rfl|omega|(simp only[go_sem]<;>omega)|fail)only[go_sem,norm_eq,Ok.some]; with_reducible rfl
        refine ⟨h,by simp,fun j hj hji => ?_⟩
        by_cases e : j = i
        ·subst e; simpa [x1,x2] using q
        ·exact hok j hj (by omega)
     ·rw [if_neg fun ⟨j,hj,hc⟩ => hok j hj (by omega) hc] at he; subst he
      obtain rfl : i = bad.length:=by omega
      repeat(first|apply Ya|apply Yb|apply Yc|((first|apply Yd|apply Ye|apply Yf|apply Yg|apply Yh);simp -implicitDefEqProofs(maxSteps:=9^7)(disch:=first|exact Yo rfl|omega|(simp only[go_sem]<;>omega)|fail)only[go_sem,Int.lt_irrefl]<;>try with_reducible rfl)|apply Yi|apply Yj|apply Yk|apply Yl|apply Ym|apply Yn)
      try rfl
 ·rw [decide_eq_false h1] at w1
  rw [if_pos h1] at he; subst he
  refine Yr (fn:=a50) (k:=3) (res:=[.cell 6 3 true,.tmp 7]) rfl rfl rfl (by simp -implicitDefEqProofs(maxSteps:=9^7)(disch:=first|exact Yo rfl|omega|(simp only[go_sem]<;>omega)|fail)only[go_sem]) ?_
  try delta mvA
  try delta opA
  try delta tA
  simp -implicitDefEqProofs(maxSteps:=9^7)(disch:=first|exact Yo rfl|omega|(simp only[go_sem]<;>omega)|fail)only[go_sem]
  repeat(first|apply Ya|apply Yb|apply Yc|((first|apply Yd|apply Ye|apply Yf|apply Yg|apply Yh);simp -implicitDefEqProofs(maxSteps:=9^7)(disch:=first|exact Yo rfl|omega|(simp only[go_sem]<;>omega)|fail)only[go_sem,w1]<;>try with_reducible rfl)|apply Yi|apply Yj|apply Yk|apply Yl|apply Ym|apply Yn)
  try rfl
end Go.Abs.Seam
set_option linter.all false
namespace Go.Abs.Seam
set_option maxRecDepth 10000
set_option maxHeartbeats 1000000
def FineAt (bad : List Int) (s p : Int) : Prop:=∀ b ∈ bad,¬ (s ≤ b ∧ b ≤ s + p - 1)
def OkAt (r : Int) (bad : List Int) (c : Cut) (s : Int) : Prop:=s % r = c.b ∧ FineAt bad s c.p
structure IsStart (r : Int) (bad : List Int) (c : Cut) (f s : Int) : Prop where
 le : f ≤ s
 ok : OkAt r bad c s
 no : ∀ x,f ≤ x → x < s → ¬ OkAt r bad c x
theorem IsStart.uniq {r : Int} {bad : List Int} {c : Cut} {f s s' : Int} (h : IsStart r bad c f s) (h' : IsStart r bad c f s') : s = s':=by
 rcases Int.lt_trichotomy s s' with q | q | q
 ·exact absurd h.ok (h'.no s h.le q)
 ·exact q
 ·exact absurd h'.ok (h.no s' h'.le q)
open Classical in
noncomputable def stepS (r : Int) (bad : List Int) (c : Cut) : Nat → Int → Int
 | 0,x => x
 | k + 1,x => if OkAt r bad c x then x else stepS r bad c k (x + 1)
noncomputable def startF (r : Int) (bad : List Int) (c : Cut) (f : Int) : Int:=stepS r bad c 100200 f
theorem step_spec {r : Int} {bad : List Int} {c : Cut} : ∀ (k : Nat) (x y : Int),x ≤ y → y ≤ x + k → OkAt r bad c y → IsStart r bad c x (stepS r bad c k x) ∧ stepS r bad c k x ≤ y
 | 0,x,y,h1,h2,h3 => by
  obtain rfl : y = x:=by omega
  exact ⟨⟨Int.le_refl _,h3,fun z h1 h2 => by simp only [stepS] at h2; omega⟩,Int.le_refl _⟩
 | k + 1,x,y,h1,h2,h3 => by
  simp only [stepS];by_cases c : OkAt r bad c x
  ·rw [if_pos c]
   exact ⟨⟨Int.le_refl _,c,fun z h1 h2 => by omega⟩,h1⟩
  ·rw [if_neg c]
   have hne : x ≠ y:=fun e => c (e ▸ h3)
   obtain ⟨⟨i1,i2,i3⟩,i4⟩:=step_spec k (x + 1) y (by omega) (by omega) h3
   refine ⟨⟨by omega,i2,fun z q1 q2 => ?_⟩,i4⟩
   by_cases e : z = x
   ·subst e; exact c
   ·exact i3 z (by omega) q2
theorem next_rem {r b x : Int} (hr : 0 < r) (hb : 0 ≤ b ∧ b < r) : (x + (b + r - x % r) % r) % r = b ∧ 0 ≤ (b + r - x % r) % r ∧ (b + r - x % r) % r < r ∧ ∀ y,x ≤ y → y < x + (b + r - x % r) % r → y % r ≠ b:=by
 have h1:=Int.emod_nonneg (b + r - x % r) (by omega : r ≠ 0)
 have h2:=Int.emod_lt_of_pos (b + r - x % r) hr;have hx : x = r * (x / r) + x % r:=(Int.mul_ediv_add_emod x r).symm;have hq : b + r - x % r = r * ((b + r - x % r) / r) + (b + r - x % r) % r:=(Int.mul_ediv_add_emod _ r).symm;have h3 : (x + (b + r - x % r) % r) % r = b:=by
  have e : x + (b + r - x % r) % r = b + r * (x / r + 1 - (b + r - x % r) / r):=by
   rw [Int.mul_sub,Int.mul_add,Int.mul_one]; omega
  rw [e,Int.add_mul_emod_self_left,Int.emod_eq_of_lt hb.1 hb.2]
 refine ⟨h3,h1,h2,fun y q1 q2 q3 => ?_⟩
 have h4 : (x + (b + r - x % r) % r - y) % r = 0:=Int.emod_eq_emod_iff_emod_sub_eq_zero.1 (by rw [h3,q3])
 rw [Int.emod_eq_of_lt (by omega) (by omega)] at h4
 omega
theorem ok_exists {r : Int} {bad : List Int} {c : Cut} (hr : 1 ≤ r ∧ r ≤ 100) (hbad : ∀ b ∈ bad,0 ≤ b ∧ b ≤ 100000) (hc : 0 ≤ c.b ∧ c.b ≤ r - 1) (f : Int) : ∃ y,f ≤ y ∧ y ≤ max f 100001 + 100 ∧ OkAt r bad c y:=by
 obtain ⟨h1,h2,h3,_⟩:=next_rem (r:=r) (b:=c.b) (x:=max f 100001) (by omega) (by omega)
 refine ⟨max f 100001 + (c.b + r - (max f 100001) % r) % r,by omega,by omega,h1,fun b hb q => ?_⟩
 have:=hbad b hb;omega
theorem start_spec {r : Int} {bad : List Int} {c : Cut} (hr : 1 ≤ r ∧ r ≤ 100) (hbad : ∀ b ∈ bad,0 ≤ b ∧ b ≤ 100000) (hc : 0 ≤ c.b ∧ c.b ≤ r - 1) {f : Int} (hf : 0 ≤ f) : IsStart r bad c f (startF r bad c f) ∧ startF r bad c f ≤ max f 100001 + 100:=by
 obtain ⟨y,h1,h2,h3⟩:=ok_exists hr hbad hc f;have:=step_spec 100200 f y h1 (by omega) h3
 exact ⟨this.1,by have:=this.2; unfold startF; omega⟩
theorem start_mono {r : Int} {bad : List Int} {c : Cut} (hr : 1 ≤ r ∧ r ≤ 100) (hbad : ∀ b ∈ bad,0 ≤ b ∧ b ≤ 100000) (hc : 0 ≤ c.b ∧ c.b ≤ r - 1) {f f' : Int} (hf : 0 ≤ f) (h : f ≤ f') : startF r bad c f ≤ startF r bad c f':=by
 have h1:=(start_spec hr hbad hc hf).1;have h2:=(start_spec hr hbad hc (by omega : 0 ≤ f')).1
 apply Classical.byContradiction;intro q;exact h1.no _ (by have:=h2.le; omega) (by omega) h2.ok
theorem tmod_of {a b : Int} (h : 0 ≤ a) : Int.tmod a b = a % b:=Int.tmod_eq_emod_of_nonneg h
end Go.Abs.Seam
set_option linter.all false
namespace Go.Abs.Seam
set_option maxRecDepth 10000
set_option maxHeartbeats 1000000
def InBad (bad : List Int) (at' p : Int) (n : Nat) (la : Int) : Prop :=
 (la = -1 ∧ ∀ j (h : j < bad.length),j < n → ¬ (at' ≤ bad[j] ∧ bad[j] < at' + p)) ∨ (la ∈ bad ∧ at' ≤ la ∧ la < at' + p)
theorem start_ok (r : Int) (bad : List Int) (l : List Cut) (c : Cut) (f : Int) (hr : 1 ≤ r ∧ r ≤ 100) (hl : bad.length ≤ 1000) (hbad : ∀ b ∈ bad,0 ≤ b ∧ b ≤ 100000) (hp : 1 ≤ c.p ∧ c.p ≤ 200) (hc : 0 ≤ c.b ∧ c.b ≤ r - 1) (hf : 0 ≤ f ∧ f ≤ 10000000) :
  lim F 86 [tailorV r bad l,iv f,.agg [iv c.b,iv c.p]] = some (iv (startF r bad c f),[]):=by
 obtain ⟨hs,hs2⟩:=start_spec hr hbad hc hf.1;generalize startF r bad c f = s at *;unfold tailorV;have hr0 : ¬ r = 0:=by omega
 refine Yr (fn:=a86) (k:=3) (res:=[.tmp 6]) rfl rfl rfl (by simp -implicitDefEqProofs(maxSteps:=9^7)(disch:=first|exact Yo rfl|omega|(simp only[go_sem]<;>omega)|fail)only[go_sem]) ?_
 try delta mvA
 try delta opA
 try delta tA
 simp -implicitDefEqProofs(maxSteps:=9^7)(disch:=first|exact Yo rfl|omega|(simp only[go_sem]<;>omega)|fail)only[go_sem]
 repeat(first|apply Ya|apply Yb|apply Yc|((first|apply Yd|apply Ye|apply Yf|apply Yg|apply Yh);simp -implicitDefEqProofs(maxSteps:=9^7)(disch:=first|exact Yo rfl|omega|(simp only[go_sem]<;>omega)|fail)only[go_sem]<;>try with_reducible rfl)|apply Yi|apply Yj|apply Yk|apply Yl|apply Ym|apply Yn)
 apply Wp.loopM (fun k fr => ∃ x,fr = ⟨[(3,.ptr 192 0 0),(5,.ptr 320 0 0),(7,iv x)],[(192,.box [iv r,.list 1 (bad.map fun n => iv n),.list 2 (l.map Cut.av)]),(320,.box [iv c.b,iv c.p])],[],10000000⟩ ∧
  k = (100002 - x).toNat ∧ f ≤ x ∧ x ≤ 10000001 ∧ ∀ y,f ≤ y → y < x → ¬ OkAt r bad c y)
 ·simp -implicitDefEqProofs(maxSteps:=9^7)(disch:=first|exact Yo rfl|omega|(simp only[go_sem]<;>omega)|fail)only[go_sem,norm_eq,Ok.some]
  exact ⟨_,f,rfl,rfl,Int.le_refl _,by omega,fun y h1 h2 => by omega⟩
 rintro k fr ⟨x,rfl,rfl,hfx,hx2,hno⟩;obtain ⟨n1,n2,n3,n4⟩:=next_rem (r:=r) (b:=c.b) (x:=x) (by omega) (by omega)
 have hx0:=Int.emod_nonneg x (by omega : r ≠ 0)
 have hx1:=Int.emod_lt_of_pos x (by omega : 0 < r)
 have t1:=tmod_of (a:=x) (b:=r) (by omega)
 have t2:=tmod_of (a:=c.b + r - x % r) (b:=r) (by omega)
 have hno2 : ∀ y,f ≤ y → y < x + (c.b + r - x % r) % r → ¬ OkAt r bad c y:=by
  intro y h1 h2 h3;by_cases q : y < x
  ·exact hno y h1 q h3
  ·exact n4 y (by omega) h2 h3.1
 generalize hat : x + (c.b + r - x % r) % r = at' at *;clear n4 hno;repeat(first|apply Ya|apply Yb|apply Yc|((first|apply Yd|apply Ye|apply Yf|apply Yg|apply Yh);simp -implicitDefEqProofs(maxSteps:=9^7)(disch:=first|exact Yo rfl|omega|(simp only[go_sem]<;>omega)|fail)only[go_sem,t1,t2,hat,hr0]<;>try with_reducible rfl)|apply Yi|apply Yj|apply Yk|apply Yl|apply Ym|apply Yn)
 apply Yu bad.length (fun i fr => ∃ la,fr = ⟨[(3,.ptr 192 0 0),(5,.ptr 320 0 0),(7,iv at'),(8,iv la),(30,.list 1 (bad.map fun n => iv n)),(31,iv bad.length),(32,iv i)],
  [(192,.box [iv r,.list 1 (bad.map fun n => iv n),.list 2 (l.map Cut.av)]),(320,.box [iv c.b,iv c.p])],[],10000000⟩ ∧ InBad bad at' c.p i la)
 ·simp -implicitDefEqProofs(maxSteps:=9^7)(disch:=first|exact Yo rfl|omega|(simp only[go_sem]<;>omega)|fail)only[go_sem,norm_eq,Ok.some]
  exact ⟨-1,rfl,.inl ⟨rfl,fun j _ hj => by omega⟩⟩
 rintro i fr hi ⟨la,rfl,hla⟩;by_cases h : i < bad.length
 ·have hb:=hbad _ (List.getElem_mem h)
  by_cases q1 : at' ≤ bad[i]
  ·by_cases q2 : bad[i] < at' + c.p
   ·clear hs hno2 hbad
    repeat(first|apply Ya|apply Yb|apply Yc|((first|apply Yd|apply Ye|apply Yf|apply Yg|apply Yh);simp -implicitDefEqProofs(maxSteps:=9^7)(disch:=first|exact Yo rfl|omega|(simp only[go_sem]<;>omega)|fail)only[go_sem,h,Int.ofNat_lt,List.getElem?_map,List.getElem?_eq_getElem h,Option.map_some,q1,q2]<;>try with_reducible rfl)|apply Yi|apply Yj|apply Yk|apply Yl|apply Ym|apply Yn)
    apply Ys
    ·simp -implicitDefEqProofs(maxSteps:=9^7)(disch:=first|exact Yo rfl|omega|(simp only[go_sem]<;>omega)|fail)only[go_sem,norm_eq,Ok.some]; with_reducible rfl
    exact ⟨h,bad[i],by simp,.inr ⟨List.getElem_mem h,q1,q2⟩⟩
   ·clear hs hno2 hbad
    repeat(first|apply Ya|apply Yb|apply Yc|((first|apply Yd|apply Ye|apply Yf|apply Yg|apply Yh);simp -implicitDefEqProofs(maxSteps:=9^7)(disch:=first|exact Yo rfl|omega|(simp only[go_sem]<;>omega)|fail)only[go_sem,h,Int.ofNat_lt,List.getElem?_map,List.getElem?_eq_getElem h,Option.map_some,q1,q2]<;>try with_reducible rfl)|apply Yi|apply Yj|apply Yk|apply Yl|apply Ym|apply Yn)
    apply Ys
    ·simp -implicitDefEqProofs(maxSteps:=9^7)(disch:=first|exact Yo rfl|omega|(simp only[go_sem]<;>omega)|fail)only[go_sem,norm_eq,Ok.some]; with_reducible rfl
    refine ⟨h,la,by simp,?_⟩
    rcases hla with ⟨h1,h2⟩ | h1
    ·refine .inl ⟨h1,fun j hj hji => ?_⟩
     by_cases e : j = i
     ·subst e; omega
     ·exact h2 j hj (by omega)
    ·exact .inr h1
  ·clear hs hno2 hbad
   repeat(first|apply Ya|apply Yb|apply Yc|((first|apply Yd|apply Ye|apply Yf|apply Yg|apply Yh);simp -implicitDefEqProofs(maxSteps:=9^7)(disch:=first|exact Yo rfl|omega|(simp only[go_sem]<;>omega)|fail)only[go_sem,h,Int.ofNat_lt,List.getElem?_map,List.getElem?_eq_getElem h,Option.map_some,q1]<;>try with_reducible rfl)|apply Yi|apply Yj|apply Yk|apply Yl|apply Ym|apply Yn)
   apply Ys
   ·simp -implicitDefEqProofs(maxSteps:=9^7)(disch:=first|exact Yo rfl|omega|(simp only[go_sem]<;>omega)|fail)only[go_sem,norm_eq,Ok.some]; with_reducible rfl
   refine ⟨h,la,by simp,?_⟩
   rcases hla with ⟨h1,h2⟩ | h1
   ·refine .inl ⟨h1,fun j hj hji => ?_⟩
    by_cases e : j = i
    ·subst e; omega
    ·exact h2 j hj (by omega)
   ·exact .inr h1
 ·obtain rfl : i = bad.length:=by omega
  rcases hla with ⟨rfl,h2⟩ | ⟨h1,h2,h3⟩
  ·have hok : OkAt r bad c at':=⟨n1,fun b hb q => by
    obtain ⟨j,hj,rfl⟩:=List.getElem_of_mem hb;exact h2 j hj hj (by omega)⟩
   have e : s = at':=hs.uniq ⟨by omega,hok,hno2⟩
   rw [e];clear hs hno2 hbad;repeat(first|apply Ya|apply Yb|apply Yc|((first|apply Yd|apply Ye|apply Yf|apply Yg|apply Yh);simp -implicitDefEqProofs(maxSteps:=9^7)(disch:=first|exact Yo rfl|omega|(simp only[go_sem]<;>omega)|fail)only[go_sem,Int.lt_irrefl]<;>try with_reducible rfl)|apply Yi|apply Yj|apply Yk|apply Yl|apply Ym|apply Yn)
  ·have hb:=hbad la h1
   have hno3 : ∀ y,f ≤ y → y < la + 1 → ¬ OkAt r bad c y:=by
    intro y k1 k2 k3;by_cases q : y < at'
    ·exact hno2 y k1 q k3
    ·exact k3.2 la h1 (by omega)
   clear hs hno2 hbad;repeat(first|apply Ya|apply Yb|apply Yc|((first|apply Yd|apply Ye|apply Yf|apply Yg|apply Yh);simp -implicitDefEqProofs(maxSteps:=9^7)(disch:=first|exact Yo rfl|omega|(simp only[go_sem]<;>omega)|fail)only[go_sem,Int.lt_irrefl,show ¬ la < 0 by omega]<;>try with_reducible rfl)|apply Yi|apply Yj|apply Yk|apply Yl|apply Ym|apply Yn)
   apply Ys
   ·simp -implicitDefEqProofs(maxSteps:=9^7)(disch:=first|exact Yo rfl|omega|(simp only[go_sem]<;>omega)|fail)only[go_sem,norm_eq,Ok.some]; with_reducible rfl
   exact ⟨(100002 - (la + 1)).toNat,by omega,la + 1,by simp,rfl,by omega,by omega,hno3⟩
end Go.Abs.Seam
set_option linter.all false
namespace Go.Abs.Seam
set_option maxRecDepth 10000
set_option maxHeartbeats 1000000
def cutAt (l : List Cut) (i : Nat) : Cut:=l[i]?.getD ⟨0,1⟩
theorem cutAt_eq {l : List Cut} {i : Nat} (h : i < l.length) : l[i]? = some (cutAt l i):=by simp [cutAt,h]
theorem cutAt_mem {l : List Cut} {i : Nat} (h : i < l.length) : cutAt l i ∈ l:=List.mem_of_getElem? (cutAt_eq h)
section
variable (r : Int) (bad : List Int) (l : List Cut)
noncomputable def endF (f : Int) (i : Nat) : Int:=startF r bad (cutAt l i) f + (cutAt l i).p
noncomputable def comp (o : List Nat) (f : Int) : Int:=o.foldl (endF r bad l) f
def IsOrd (n : Nat) (p : Nat → Bool) (o : List Nat) : Prop:=o.Nodup ∧ ∀ i,i ∈ o ↔ (i < n ∧ p i = true)
def less (p : Nat → Bool) (i : Nat) : Nat → Bool:=fun j => p j && decide (j ≠ i)
def Best (p : Nat → Bool) (f x : Int) : Prop:=(∃ o,IsOrd l.length p o ∧ comp r bad l o f = x) ∧ ∀ o,IsOrd l.length p o → x ≤ comp r bad l o f
end
section
variable {r : Int} {bad : List Int} {l : List Cut}
theorem Best.uniq {p : Nat → Bool} {f x y : Int} (h : Best r bad l p f x) (h' : Best r bad l p f y) : x = y:=by
 obtain ⟨⟨o,h1,h2⟩,h3⟩:=h;obtain ⟨⟨o',h1',h2'⟩,h3'⟩:=h';have:=h3 o' h1';have:=h3' o h1;omega
theorem best_congr {p q : Nat → Bool} {f x : Int} (h : ∀ i,i < l.length → p i = q i) (hb : Best r bad l p f x) : Best r bad l q f x:=by
 have key : ∀ o,IsOrd l.length p o ↔ IsOrd l.length q o:=by
  intro o;unfold IsOrd;refine and_congr Iff.rfl (forall_congr' fun i => ?_)
  by_cases hi : i < l.length
  ·rw [h i hi]
  ·simp [hi]
 exact ⟨by obtain ⟨o,h1,h2⟩:=hb.1; exact ⟨o,(key o).1 h1,h2⟩,fun o ho => hb.2 o ((key o).2 ho)⟩
theorem ord_nil {n : Nat} {p : Nat → Bool} (h : ∀ i,i < n → p i = false) {o : List Nat} (ho : IsOrd n p o) : o = []:=by
 cases o with
 | nil => rfl
 | cons a o =>
  have:=(ho.2 a).1 (by simp)
  rw [h a this.1] at this;simp at this
theorem best_none {p : Nat → Bool} {f x : Int} (h : ∀ i,i < l.length → p i = false) : Best r bad l p f x ↔ x = f:=by
 constructor
 ·rintro ⟨⟨o,h1,h2⟩,_⟩
  rw [ord_nil h h1] at h2;exact h2.symm
 ·rintro rfl
  refine ⟨⟨[],⟨List.nodup_nil,fun i => ?_⟩,rfl⟩,fun o ho => ?_⟩
  ·constructor
   ·intro h; cases h
   ·rintro ⟨h1,h2⟩; rw [h i h1] at h2; cases h2
  ·rw [ord_nil h ho]; exact Int.le_refl _
theorem ord_cons {n : Nat} {p : Nat → Bool} {a : Nat} {o : List Nat} : IsOrd n p (a :: o) ↔ (a < n ∧ p a = true) ∧ IsOrd n (less p a) o:=by
 unfold IsOrd less;rw [List.nodup_cons];constructor
 ·rintro ⟨⟨h1,h2⟩,h3⟩
  refine ⟨(h3 a).1 (by simp),h2,fun i => ?_⟩
  have:=h3 i;simp only [List.mem_cons] at this;constructor
  ·intro hi
   have hne : i ≠ a:=fun e => h1 (e ▸ hi)
   have:=this.1 (.inr hi);simp [this.1,this.2,hne]
  ·rintro ⟨q1,q2⟩
   simp only [Bool.and_eq_true,decide_eq_true_eq] at q2;exact (this.2 ⟨q1,q2.1⟩).resolve_left q2.2
 ·rintro ⟨h1,h2,h3⟩
  refine ⟨⟨fun h => ?_,h2⟩,fun i => ?_⟩
  ·have:=(h3 a).1 h
   simp at this
  ·rw [List.mem_cons,h3 i]
   simp only [Bool.and_eq_true,decide_eq_true_eq];constructor
   ·rintro (rfl | ⟨q1,q2⟩)
    ·exact h1
    ·exact ⟨q1,q2.1⟩
   ·rintro ⟨q1,q2⟩
    by_cases e : i = a
    ·exact .inl e
    ·exact .inr ⟨q1,q2,e⟩
theorem ord_snoc {n : Nat} {p : Nat → Bool} {a : Nat} {o : List Nat} : IsOrd n p (o ++ [a]) ↔ (a < n ∧ p a = true) ∧ IsOrd n (less p a) o:=by
 rw [← ord_cons];unfold IsOrd;have e : (o ++ [a]).Perm (a :: o):=by simpa using List.perm_append_comm (l₁:=o) (l₂:=[a])
 rw [e.nodup_iff];exact and_congr Iff.rfl (forall_congr' fun i => by rw [e.mem_iff])
theorem best_first {p : Nat → Bool} {f : Int} {xs : Nat → Int} (hx : ∀ i,i < l.length → p i = true → Best r bad l (less p i) (endF r bad l f i) (xs i)) {x : Int} (h1 : ∃ i,i < l.length ∧ p i = true ∧ xs i = x) (h2 : ∀ i,i < l.length → p i = true → x ≤ xs i) : Best r bad l p f x:=by
 refine ⟨?_,fun o ho => ?_⟩
 ·obtain ⟨i,q1,q2,q3⟩:=h1
  obtain ⟨o,q4,q5⟩:=(hx i q1 q2).1;exact ⟨i :: o,ord_cons.2 ⟨⟨q1,q2⟩,q4⟩,by rw [← q3,← q5]; rfl⟩
 ·cases o with
  | nil =>
   obtain ⟨i,q1,q2,_⟩:=h1;have:=(ho.2 i).2 ⟨q1,q2⟩;cases this
  | cons a o =>
   obtain ⟨⟨q1,q2⟩,q3⟩:=ord_cons.1 ho;have:=(hx a q1 q2).2 o q3;have:=h2 a q1 q2;show x ≤ comp r bad l o (endF r bad l f a)
   omega
theorem best_last {p : Nat → Bool} {f : Int} {es xs : Nat → Int} (hmono : ∀ i,i < l.length → ∀ a b,f ≤ a → a ≤ b → endF r bad l a i ≤ endF r bad l b i) (hle : ∀ o,(∀ i ∈ o,i < l.length) → f ≤ comp r bad l o f) (he : ∀ i,i < l.length → p i = true → Best r bad l (less p i) f (es i))
  (hx : ∀ i,i < l.length → p i = true → xs i = endF r bad l (es i) i) {x : Int} (h1 : ∃ i,i < l.length ∧ p i = true ∧ xs i = x) (h2 : ∀ i,i < l.length → p i = true → x ≤ xs i) : Best r bad l p f x:=by
 refine ⟨?_,fun o ho => ?_⟩
 ·obtain ⟨i,q1,q2,q3⟩:=h1
  obtain ⟨o,q4,q5⟩:=(he i q1 q2).1;refine ⟨o ++ [i],ord_snoc.2 ⟨⟨q1,q2⟩,q4⟩,?_⟩;unfold comp at q5 ⊢;rw [List.foldl_append,q5,← q3,hx i q1 q2]; rfl
 ·rcases List.eq_nil_or_concat o with rfl | ⟨o',a,rfl⟩
  ·obtain ⟨i,q1,q2,_⟩:=h1
   have:=(ho.2 i).2 ⟨q1,q2⟩;cases this
  ·rw [List.concat_eq_append] at ho ⊢
   obtain ⟨⟨q1,q2⟩,q3⟩:=ord_snoc.1 ho;have k1:=(he a q1 q2).2 o' q3;have k2:=h2 a q1 q2;rw [hx a q1 q2] at k2;obtain ⟨⟨o2,k5,k4⟩,_⟩:=he a q1 q2;have k3:=hmono a q1 (es a) (comp r bad l o' f) (by rw [← k4]; exact hle o2 fun i hi => ((k5.2 i).1 hi).1) k1
   have e : comp r bad l (o' ++ [a]) f = endF r bad l (comp r bad l o' f) a:=by unfold comp; rw [List.foldl_append]; rfl
   rw [e]; omega
variable (hv : CutsOk r bad l)
include hv
theorem endF_bound {f : Int} (hf : 0 ≤ f) {i : Nat} (hi : i < l.length) : f + 1 ≤ endF r bad l f i ∧ endF r bad l f i ≤ max f 100001 + 300:=by
 have hc:=hv.cc _ (cutAt_mem hi);have:=start_spec hv.rr hv.bb hc.2 hf;have:=this.1.le;unfold endF; omega
theorem endF_mono {i : Nat} (hi : i < l.length) {a b : Int} (ha : 0 ≤ a) (h : a ≤ b) : endF r bad l a i ≤ endF r bad l b i:=by
 have hc:=hv.cc _ (cutAt_mem hi);have:=start_mono hv.rr hv.bb hc.2 ha h;unfold endF; omega
theorem comp_bound {p : Nat → Bool} : ∀ {o : List Nat} {f : Int},0 ≤ f → (∀ i ∈ o,i < l.length) → f ≤ comp r bad l o f ∧ comp r bad l o f ≤ max f 100001 + 300 * o.length
 | [],f,hf,_ => by simp [comp]; omega
 | a :: o,f,hf,h => by
  have h1:=endF_bound hv hf (h a (by simp))
  have:=comp_bound (p:=p) (o:=o) (f:=endF r bad l f a) (by omega) fun i hi => h i (List.mem_cons_of_mem _ hi)
  have e : comp r bad l (a :: o) f = comp r bad l o (endF r bad l f a):=rfl;rw [e];simp only [List.length_cons];omega
theorem ord_len {p : Nat → Bool} {n : Nat} {o : List Nat} (h : IsOrd n p o) : o.length ≤ n:=by
 have : o.length ≤ (List.range n).length:=h.1.length_le_of_subset fun i hi => List.mem_range.2 ((h.2 i).1 hi).1
 simpa using this
theorem best_bound {p : Nat → Bool} {f x : Int} (hf : 0 ≤ f) (h : Best r bad l p f x) : f ≤ x ∧ x ≤ max f 100001 + 2400:=by
 obtain ⟨⟨o,h1,h2⟩,_⟩:=h;have:=comp_bound (p:=p) hv hf fun i hi => ((h1.2 i).1 hi).1
 have:=ord_len hv h1;have:=hv.ll;omega
theorem best_exists : ∀ (k : Nat) (p : Nat → Bool) (f : Int),((List.range l.length).filter p).length = k → ∃ x,Best r bad l p f x:=by
 intro k;induction k with
 | zero =>
  intro p f hk;refine ⟨f,(best_none fun i hi => ?_).2 rfl⟩
  rw [List.length_eq_zero_iff,List.filter_eq_nil_iff] at hk;simpa using hk i (List.mem_range.2 hi)
 | succ k ih =>
  intro p f hk;have hlen : ∀ i,i < l.length → p i = true → ((List.range l.length).filter (less p i)).length = k:=by
   intro i hi hp;have e : (List.range l.length).filter (less p i) = ((List.range l.length).filter p).erase i:=by
    rw [List.Nodup.erase_eq_filter (List.nodup_range.filter _),List.filter_filter]
    congr 1
    funext j;unfold less;by_cases e : j = i
    ·subst e; simp
    ·simp [e]
   rw [e,List.length_erase_of_mem (List.mem_filter.2 ⟨List.mem_range.2 hi,hp⟩),hk]; rfl
  have hx : ∀ i,∃ x,(i < l.length → p i = true → Best r bad l (less p i) (endF r bad l f i) x):=by
   intro i;by_cases h : i < l.length ∧ p i = true
   ·obtain ⟨x,hx⟩:=ih (less p i) (endF r bad l f i) (hlen i h.1 h.2)
    exact ⟨x,fun _ _ => hx⟩
   ·exact ⟨0,fun h1 h2 => absurd ⟨h1,h2⟩ h⟩
  let xs:=fun i => Classical.choose (hx i)
  have hxs:=fun i => Classical.choose_spec (hx i)
  have hne : ∃ i,i < l.length ∧ p i = true:=by
   cases hc : (List.range l.length).filter p with
   | nil => rw [hc] at hk; simp at hk
   | cons a t =>
    have : a ∈ (List.range l.length).filter p:=by rw [hc]; simp
    rw [List.mem_filter,List.mem_range] at this;exact ⟨a,this⟩
  have key : ∀ N,(∃ i,i < N ∧ i < l.length ∧ p i = true) → ∃ i,i < l.length ∧ p i = true ∧ ∀ j,j < N → j < l.length → p j = true → xs i ≤ xs j:=by
   intro N;induction N with
   | zero => rintro ⟨i,h,_⟩; omega
   | succ N ihN =>
    intro hex;by_cases hN : ∃ i,i < N ∧ i < l.length ∧ p i = true
    ·obtain ⟨i,h1,h2,h3⟩:=ihN hN
     by_cases hc : N < l.length ∧ p N = true ∧ xs N < xs i
     ·refine ⟨N,hc.1,hc.2.1,fun j q1 q2 q3 => ?_⟩
      by_cases e : j = N
      ·subst e; exact Int.le_refl _
      ·have:=h3 j (by omega) q2 q3; omega
     ·refine ⟨i,h1,h2,fun j q1 q2 q3 => ?_⟩
      by_cases e : j = N
      ·subst e
       apply Classical.byContradiction;intro q4; exact hc ⟨q2,q3,by omega⟩
      ·exact h3 j (by omega) q2 q3
    ·obtain ⟨i,h1,h2,h3⟩:=hex
     refine ⟨i,h2,h3,fun j q1 q2 q3 => ?_⟩
     by_cases e : j = i
     ·subst e; exact Int.le_refl _
     ·exact absurd ⟨j,by
       have : i = N:=by
        apply Classical.byContradiction;intro e2; exact hN ⟨i,by omega,h2,h3⟩
       omega,q2,q3⟩ hN
  obtain ⟨i0,k1,k2⟩:=hne;obtain ⟨i,h1,h2,h3⟩:=key l.length ⟨i0,k1,k1,k2⟩;exact ⟨xs i,best_first (xs:=xs) (fun j q1 q2 => hxs j q1 q2) ⟨i,h1,h2,rfl⟩ fun j q1 q2 => h3 j q1 q1 q2⟩
end
end Go.Abs.Seam
set_option linter.all false
namespace Go.Abs.Seam
set_option maxRecDepth 10000
set_option maxHeartbeats 1000000
def isFree (used : List Bool) (i : Nat) : Bool:=!(used[i]?.getD true)
end Go.Abs.Seam
set_option linter.all false
namespace Go.Abs.Seam
set_option maxRecDepth 10000
set_option maxHeartbeats 1000000
structure Plan where
 last : Int
 start : Int
 fin : Int
def Plan.av (p : Plan) : AV:=.agg [iv p.last,iv p.start,iv p.fin]
@[go_sem] theorem plan_plain (l : List Plan) : (l.map Plan.av).all AV.plain = true:=by
 simp [Plan.av,AV.plain,AV.plain1]
def planAt (l : List Plan) (s : Nat) : Plan:=l[s]?.getD ⟨0,0,0⟩
theorem planAt_eq {l : List Plan} {s : Nat} (h : s < l.length) : l[s]? = some (planAt l s):=by simp [planAt,h]
def PlanOk (r : Int) (bad : List Int) (l : List Cut) (s : Nat) (p : Plan) : Prop :=
 Best r bad l s.testBit 0 p.fin ∧ (s ≠ 0 → ∃ i : Nat,i < l.length ∧ s.testBit i = true ∧ p.last = i ∧ ∃ e,0 ≤ e ∧ Best r bad l (andN s (2 ^ i)).testBit 0 e ∧ p.start = startF r bad (cutAt l i) e ∧ p.fin = p.start + (cutAt l i).p)
def InnP (r : Int) (bad : List Int) (l : List Cut) (s : Nat) (es : Nat → Int) (i : Nat) (b : Plan) : Prop :=
 (b.fin = -1 ∧ ∀ j,j < i → s.testBit j = false) ∨ (∃ j,j < i ∧ s.testBit j = true ∧ b.last = j ∧ b.start = startF r bad (cutAt l j) (es j) ∧ b.fin = endF r bad l (es j) j ∧ ∀ j',j' < i → s.testBit j' = true → b.fin ≤ endF r bad l (es j') j')
theorem innP_ok {r : Int} {bad : List Int} {l : List Cut} (hv : CutsOk r bad l) {s : Nat} (hs : s < 2 ^ l.length) (h0 : s ≠ 0) {es : Nat → Int} (he : ∀ i,i < l.length → s.testBit i = true → 0 ≤ es i ∧ Best r bad l (andN s (2 ^ i)).testBit 0 (es i)) {b : Plan} (h : InnP r bad l s es l.length b) : PlanOk r bad l s b:=by
 have hs63 : s < 9223372036854775808:=by
  have : 2 ^ l.length ≤ 2 ^ 8:=Nat.pow_le_pow_right (by omega) hv.ll
  omega
 have hl : ∀ i,i < l.length → s.testBit i = true → Best r bad l (less s.testBit i) 0 (es i):=fun i h1 h2 => best_congr (fun j hj => by rw [andN_pow hs63]; rfl) (he i h1 h2).2
 rcases h with ⟨_,h2⟩ | ⟨j,h1,h2,h3,h4,h5,h6⟩
 ·obtain ⟨j,hj⟩:=Nat.exists_testBit_of_ne_zero h0
  by_cases c : j < l.length
  ·rw [h2 j c] at hj; cases hj
  ·rw [Nat.testBit_lt_two_pow (Nat.lt_of_lt_of_le hs (Nat.pow_le_pow_right (by omega) (by omega)))] at hj; cases hj
 ·refine ⟨best_last (es:=es) (xs:=fun i => endF r bad l (es i) i) (fun i hi a c h1 h2 => endF_mono hv hi h1 h2) (fun o ho => (comp_bound (p:=fun _ => true) hv (Int.le_refl 0) ho).1) hl (fun _ _ _ => rfl) ⟨j,h1,h2,h5.symm⟩ h6,fun _ => ⟨j,h1,h2,h3,es j,(he j h1 h2).1,(he j h1 h2).2,h4,by rw [h5,h4]; rfl⟩⟩
theorem plans_ok (r : Int) (bad : List Int) (l : List Cut) (hv : CutsOk r bad l) :
  ∃ q,lim F 51 [tailorV r bad l] = some q ∧ ∃ P : List Plan,q = (.own 3 (P.map Plan.av),[]) ∧ P.length = 2 ^ l.length ∧ ∀ s,s < 2 ^ l.length → PlanOk r bad l s (planAt P s):=by
 have hl8:=hv.ll;have hlb:=hv.lb;have hN : 2 ^ l.length ≤ 256:=Nat.le_trans (Nat.pow_le_pow_right (n:=2) (by omega) hl8) (by omega)
 have hN0 : 0 < 2 ^ l.length:=Nat.pow_pos (by omega)
 have hshl:=w_shl1 l.length (by omega)
 have hok:=fun {s : Nat} hs h0 {es : Nat → Int} he {b : Plan} h => innP_ok hv (s:=s) hs h0 (es:=es) he (b:=b) h
 have hstart:=fun c f h1 h2 h3 => start_ok r bad l c f hv.rr (by omega) hv.bb h1 h2 h3
 simp only [tailorV] at hstart;generalize hNN : 2 ^ l.length = N at *;unfold tailorV;refine lim_ex (fn:=a51) (k:=1) (res:=[.tmp 2]) rfl rfl rfl (by simp -implicitDefEqProofs(maxSteps:=9^7)(disch:=first|exact Yo rfl|omega|(simp only[go_sem]<;>omega)|fail)only[go_sem]) ?_
 try delta mvA
 try delta opA
 try delta tA
 simp -implicitDefEqProofs(maxSteps:=9^7)(disch:=first|exact Yo rfl|omega|(simp only[go_sem]<;>omega)|fail)only[go_sem]
 repeat(first|apply Ya|apply Yb|apply Yc|((first|apply Yd|apply Ye|apply Yf|apply Yg|apply Yh);simp -implicitDefEqProofs(maxSteps:=9^7)(disch:=first|exact Yo rfl|omega|(simp only[go_sem]<;>omega)|fail)only[go_sem,hshl]<;>try with_reducible rfl)|apply Yi|apply Yj|apply Yk|apply Yl|apply Ym|apply Yn)
 apply Yu N (fun k fr => ∃ P : List Plan,fr = ⟨[(1,.ptr 64 0 0),(3,.slice 192 0 N),(4,iv (k + 1 : Nat))],[(64,.box [iv r,.list 1 (bad.map fun n => iv n),.list 2 (l.map Cut.av)]),(192,.arr 3 (P.map Plan.av))],[],10000000⟩ ∧
  P.length = N ∧ ∀ s,s ≤ k → s < N → PlanOk r bad l s (planAt P s))
 ·simp -implicitDefEqProofs(maxSteps:=9^7)(disch:=first|exact Yo rfl|omega|(simp only[go_sem]<;>omega)|fail)only[go_sem,norm_eq,Ok.some]
  refine ⟨List.replicate N ⟨0,0,0⟩,by simp [Plan.av],by simp,fun s h1 h2 => ?_⟩
  obtain rfl : s = 0:=by omega
  refine ⟨?_,fun h => absurd rfl h⟩
  have : planAt (List.replicate N ⟨0,0,0⟩) 0 = ⟨0,0,0⟩:=by simp [planAt,List.getElem?_replicate,hN0]
  rw [this];exact (best_none fun i _ => Nat.zero_testBit i).2 rfl
 rintro k fr hk ⟨P,rfl,hlP,hP⟩;by_cases hkN : k + 1 < N
 ·have hlt : ((k + 1 : Nat) : Int) < N:=by omega
  generalize hs : k + 1 = s at *;have hs63 : s < 9223372036854775808:=by omega
  have hes : ∀ i,i < l.length → s.testBit i = true → 0 ≤ (planAt P (andN s (2 ^ i))).fin ∧ Best r bad l (andN s (2 ^ i)).testBit 0 (planAt P (andN s (2 ^ i))).fin:=by
   intro i h1 h2;have:=andN_lt hs63 h2;have:=(hP (andN s (2 ^ i)) (by omega) (by omega)).1
   exact ⟨(best_bound hv (Int.le_refl 0) this).1,this⟩
  have hfin:=fun b h => hok (s:=s) (b:=b) (by omega) (by omega) hes h
  repeat(first|apply Ya|apply Yb|apply Yc|((first|apply Yd|apply Ye|apply Yf|apply Yg|apply Yh);simp -implicitDefEqProofs(maxSteps:=9^7)(disch:=first|exact Yo rfl|omega|(simp only[go_sem]<;>omega)|fail)only[go_sem,hlt]<;>try with_reducible rfl)|apply Yi|apply Yj|apply Yk|apply Yl|apply Ym|apply Yn)
  apply Yu l.length (fun i fr => ∃ b : Plan,fr = ⟨[(1,.ptr 64 0 0),(3,.slice 192 0 N),(4,iv s),(5,.ptr 320 0 0),(22,.list 2 (l.map Cut.av)),(23,iv l.length),(24,iv i)],
   [(64,.box [iv r,.list 1 (bad.map fun n => iv n),.list 2 (l.map Cut.av)]),(192,.arr 3 (P.map Plan.av)),(320,.box [iv b.last,iv b.start,iv b.fin])],[],10000000⟩ ∧ InnP r bad l s (fun i => (planAt P (andN s (2 ^ i))).fin) i b)
  ·simp -implicitDefEqProofs(maxSteps:=9^7)(disch:=first|exact Yo rfl|omega|(simp only[go_sem]<;>omega)|fail)only[go_sem,norm_eq,Ok.some]
   exact ⟨⟨0,0,-1⟩,rfl,.inl ⟨rfl,fun j hj => by omega⟩⟩
  rintro i fr hi ⟨b,rfl,hb⟩;by_cases h : i < l.length
  ·have hc:=cutAt_eq h
   have hcv:=hv.cc _ (cutAt_mem h);have f1:=w_shr s i (by omega)
   have hsr : s >>> i < 9223372036854775808:=by
    rw [Nat.shiftRight_eq_div_pow]; exact Nat.lt_of_le_of_lt (Nat.div_le_self _ _) hs63
   have f2:=w_and1 (s >>> i) hsr;rw [shr_and1] at f2;cases hbit : s.testBit i with
   | false =>
    rw [hbit] at f2;simp only [Bool.false_eq_true,if_false] at f2;have hb' : InnP r bad l s (fun i => (planAt P (andN s (2 ^ i))).fin) (i + 1) b:=by
     rcases hb with ⟨h1,h2⟩ | ⟨j,h1,h2,h3,h4,h5,h6⟩
     ·refine .inl ⟨h1,fun j hj => ?_⟩
      by_cases e : j = i
      ·subst e; exact hbit
      ·exact h2 j (by omega)
     ·refine .inr ⟨j,by omega,h2,h3,h4,h5,fun j' q1 q2 => ?_⟩
      by_cases e : j' = i
      ·subst e; rw [hbit] at q2; cases q2
      ·exact h6 j' (by omega) q2
    clear hv hok hP hes hfin hstart hb;repeat(first|apply Ya|apply Yb|apply Yc|((first|apply Yd|apply Ye|apply Yf|apply Yg|apply Yh);simp -implicitDefEqProofs(maxSteps:=9^7)(disch:=first|exact Yo rfl|omega|(simp only[go_sem]<;>omega)|fail)only[go_sem,h,Int.ofNat_lt,List.getElem?_map,hc,Option.map_some,Cut.av.eq_1,f1,f2]<;>try with_reducible rfl)|apply Yi|apply Yj|apply Yk|apply Yl|apply Ym|apply Yn)
    apply Ys
    ·simp -implicitDefEqProofs(maxSteps:=9^7)(disch:=first|exact Yo rfl|omega|(simp only[go_sem]<;>omega)|fail)only[go_sem,norm_eq,Ok.some]; with_reducible rfl
    exact ⟨h,b,by simp,hb'⟩
   | true =>
    rw [hbit] at f2;simp only [if_true] at f2;have f3:=w_shl1 i (by omega)
    have f4:=w_andN s (2 ^ i) hs63;have hlt2:=andN_lt hs63 hbit;have hx:=planAt_eq (l:=P) (s:=andN s (2 ^ i)) (by omega)
    obtain ⟨he0,heB⟩:=hes i h hbit;have heb:=best_bound hv (Int.le_refl 0) heB;have hst:=hstart (cutAt l i) (planAt P (andN s (2 ^ i))).fin hcv.1 hcv.2 ⟨he0,by omega⟩
    have hsb:=start_spec (r:=r) (bad:=bad) (c:=cutAt l i) hv.rr hv.bb hcv.2 he0;have hsb1:=hsb.1.le;have hsb2:=hsb.2;have hend : startF r bad (cutAt l i) (planAt P (andN s (2 ^ i))).fin + (cutAt l i).p = endF r bad l (planAt P (andN s (2 ^ i))).fin i:=rfl;have hnew : ∀ b' : Plan,(b.fin < 0 ∨ endF r bad l (planAt P (andN s (2 ^ i))).fin i < b.fin) → b' = ⟨i,startF r bad (cutAt l i) (planAt P (andN s (2 ^ i))).fin,endF r bad l (planAt P (andN s (2 ^ i))).fin i⟩ → InnP r bad l s (fun i => (planAt P (andN s (2 ^ i))).fin) (i + 1) b':=by
     rintro b' hlt rfl;refine .inr ⟨i,by omega,hbit,rfl,rfl,rfl,fun j' q1 q2 => ?_⟩
     by_cases e : j' = i
     ·subst e; exact Int.le_refl _
     ·rcases hb with ⟨h1,h2⟩ | ⟨j,h1,h2,h3,h4,h5,h6⟩
      ·have:=h2 j' (by omega); rw [this] at q2; cases q2
      ·have k1:=h6 j' (by omega) q2
       have k2:=endF_bound hv (hes j (by omega) h2).1 (i:=j) (by omega)
       have k3:=(hes j (by omega) h2).1
       dsimp only at k1 h5 ⊢;omega
    have hold : ¬ (b.fin < 0 ∨ endF r bad l (planAt P (andN s (2 ^ i))).fin i < b.fin) → InnP r bad l s (fun i => (planAt P (andN s (2 ^ i))).fin) (i + 1) b:=by
     intro hge;rcases hb with ⟨h1,h2⟩ | ⟨j,h1,h2,h3,h4,h5,h6⟩
     ·omega
     ·refine .inr ⟨j,by omega,h2,h3,h4,h5,fun j' q1 q2 => ?_⟩
      by_cases e : j' = i
      ·subst e; dsimp only; omega
      ·exact h6 j' (by omega) q2
    have hbb : b.fin ≤ 1000000:=by
     rcases hb with ⟨h1,_⟩ | ⟨j,h1,h2,h3,h4,h5,h6⟩
     ·omega
     ·have k2:=endF_bound hv (hes j (by omega) h2).1 (i:=j) (by omega)
      have k3:=best_bound hv (Int.le_refl 0) (hes j (by omega) h2).2
      dsimp only at h5;omega
    have hltN : (andN s (2 ^ i) : Int) < N:=by omega
    clear hv hok hP hes hfin hstart hb hsb heB;generalize endF r bad l (planAt P (andN s (2 ^ i))).fin i = en at *;generalize startF r bad (cutAt l i) (planAt P (andN s (2 ^ i))).fin = st at *;generalize hpa : planAt P (andN s (2 ^ i)) = pa at *;by_cases q1 : b.fin < 0
    ·repeat(first|apply Ya|apply Yb|apply Yc|((first|apply Yd|apply Ye|apply Yf|apply Yg|apply Yh);simp -implicitDefEqProofs(maxSteps:=9^7)(disch:=first|exact Yo rfl|omega|(simp only[go_sem]<;>omega)|fail)only[go_sem,h,Int.ofNat_lt,List.getElem?_map,hc,hx,Option.map_some,Cut.av.eq_1,Plan.av.eq_1,f1,f2,f3,f4,hst,hend,hltN,q1]<;>try with_reducible rfl)|apply Yi|apply Yj|apply Yk|apply Yl|apply Ym|apply Yn)
     apply Ys
     ·simp -implicitDefEqProofs(maxSteps:=9^7)(disch:=first|exact Yo rfl|omega|(simp only[go_sem]<;>omega)|fail)only[go_sem,norm_eq,Ok.some]; with_reducible rfl
     exact ⟨h,⟨i,st,en⟩,by simp,hnew _ (.inl q1) rfl⟩
    ·by_cases q2 : en < b.fin
     ·repeat(first|apply Ya|apply Yb|apply Yc|((first|apply Yd|apply Ye|apply Yf|apply Yg|apply Yh);simp -implicitDefEqProofs(maxSteps:=9^7)(disch:=first|exact Yo rfl|omega|(simp only[go_sem]<;>omega)|fail)only[go_sem,h,Int.ofNat_lt,List.getElem?_map,hc,hx,Option.map_some,Cut.av.eq_1,Plan.av.eq_1,f1,f2,f3,f4,hst,hend,hltN,q1,q2]<;>try with_reducible rfl)|apply Yi|apply Yj|apply Yk|apply Yl|apply Ym|apply Yn)
      apply Ys
      ·simp -implicitDefEqProofs(maxSteps:=9^7)(disch:=first|exact Yo rfl|omega|(simp only[go_sem]<;>omega)|fail)only[go_sem,norm_eq,Ok.some]; with_reducible rfl
      exact ⟨h,⟨i,st,en⟩,by simp,hnew _ (.inr q2) rfl⟩
     ·repeat(first|apply Ya|apply Yb|apply Yc|((first|apply Yd|apply Ye|apply Yf|apply Yg|apply Yh);simp -implicitDefEqProofs(maxSteps:=9^7)(disch:=first|exact Yo rfl|omega|(simp only[go_sem]<;>omega)|fail)only[go_sem,h,Int.ofNat_lt,List.getElem?_map,hc,hx,Option.map_some,Cut.av.eq_1,Plan.av.eq_1,f1,f2,f3,f4,hst,hend,hltN,q1,q2]<;>try with_reducible rfl)|apply Yi|apply Yj|apply Yk|apply Yl|apply Ym|apply Yn)
      apply Ys
      ·simp -implicitDefEqProofs(maxSteps:=9^7)(disch:=first|exact Yo rfl|omega|(simp only[go_sem]<;>omega)|fail)only[go_sem,norm_eq,Ok.some]; with_reducible rfl
      exact ⟨h,b,by simp,hold fun h => h.elim q1 q2⟩
  ·obtain rfl : i = l.length:=by omega
   have hPs:=hfin b hb;have hset : (P.map Plan.av).set s (.agg [iv b.last,iv b.start,iv b.fin]) = (P.set s b).map Plan.av:=by rw [List.map_set]; rfl
   have hxs : P[s]? = some (planAt P s):=planAt_eq (by omega)
   clear hok hfin hes hstart;repeat(first|apply Ya|apply Yb|apply Yc|((first|apply Yd|apply Ye|apply Yf|apply Yg|apply Yh);simp -implicitDefEqProofs(maxSteps:=9^7)(disch:=first|exact Yo rfl|omega|(simp only[go_sem]<;>omega)|fail)only[go_sem,Int.lt_irrefl,hset,List.getElem?_map,hxs,Option.map_some,Plan.av.eq_1]<;>try with_reducible rfl)|apply Yi|apply Yj|apply Yk|apply Yl|apply Ym|apply Yn)
   apply Ys
   ·simp -implicitDefEqProofs(maxSteps:=9^7)(disch:=first|exact Yo rfl|omega|(simp only[go_sem]<;>omega)|fail)only[go_sem,norm_eq,Ok.some]; with_reducible rfl
   refine ⟨by omega,P.set s b,by simp,by simp [hlP],fun s' h1 h2 => ?_⟩
   by_cases e : s' = s
   ·subst e
    have : planAt (P.set s' b) s' = b:=by simp [planAt,List.getElem?_set_self (show s' < P.length by omega)]
    rw [this]; exact hPs
   ·have : planAt (P.set s b) s' = planAt P s':=by
     unfold planAt;rw [List.getElem?_set_ne (fun h => e h.symm)]
    rw [this]; exact hP s' (by omega) h2
 ·have hlt : ¬ ((k + 1 : Nat) : Int) < N:=by omega
  clear hok hstart;repeat(first|apply Ya|apply Yb|apply Yc|((first|apply Yd|apply Ye|apply Yf|apply Yg|apply Yh);simp -implicitDefEqProofs(maxSteps:=9^7)(disch:=first|exact Yo rfl|omega|(simp only[go_sem]<;>omega)|fail)only[go_sem,hlt]<;>try with_reducible rfl)|apply Yi|apply Yj|apply Yk|apply Yl|apply Ym|apply Yn)
  refine finp_ret (r:=(.own 3 (P.map Plan.av),[])) ?_ ⟨P,rfl,hlP,fun s hs => hP s (by omega) hs⟩
  simp -implicitDefEqProofs(maxSteps:=9^7)(disch:=first|exact Yo rfl|omega|(simp only[go_sem]<;>omega)|fail)only[go_sem,hlP]
end Go.Abs.Seam
set_option linter.all false
namespace Go.Abs.Seam
set_option maxRecDepth 10000
set_option maxHeartbeats 1000000
def stAt (l : List Int) (i : Nat) : Int:=l[i]?.getD 0
theorem stAt_eq {l : List Int} {i : Nat} (h : i < l.length) : l[i]? = some (stAt l i):=by simp [stAt,h]
theorem stAt_set {l : List Int} {i j : Nat} (h : i < l.length) (x : Int) : stAt (l.set i x) j = if j = i then x else stAt l j:=by
 unfold stAt;by_cases e : j = i
 ·subst e; rw [List.getElem?_set_self h]; simp
 ·rw [List.getElem?_set_ne (fun h => e h.symm),if_neg e]
structure CutFits (r : Int) (bad : List Int) (c : Cut) (need x : Int) : Prop where
 pos : 0 ≤ x
 rem : x % r = c.b
 fine : FineAt bad x c.p
 fin : x + c.p ≤ need
structure CutsFit (r : Int) (bad : List Int) (l : List Cut) (need : Int) (st : List Int) : Prop where
 len : st.length = l.length
 each : ∀ i,i < l.length → CutFits r bad (cutAt l i) need (stAt st i)
 apart : ∀ i k,i < l.length → k < l.length → i ≠ k → stAt st i + (cutAt l i).p ≤ stAt st k ∨ stAt st k + (cutAt l k).p ≤ stAt st i
 top : l.length ≠ 0 → ∃ i,i < l.length ∧ stAt st i + (cutAt l i).p = need
 none : l.length = 0 → need = 0
structure LaidCuts (r : Int) (bad : List Int) (l : List Cut) (P : List Plan) (need : Int) (s : Nat) (st : List Int) : Prop where
 each : ∀ i,i < l.length → s.testBit i = false → CutFits r bad (cutAt l i) need (stAt st i) ∧ (planAt P s).fin ≤ stAt st i
 apart : ∀ i k,i < l.length → k < l.length → i ≠ k → s.testBit i = false → s.testBit k = false → stAt st i + (cutAt l i).p ≤ stAt st k ∨ stAt st k + (cutAt l k).p ≤ stAt st i
 top : (planAt P s).fin = need ∨ ∃ i,i < l.length ∧ s.testBit i = false ∧ stAt st i + (cutAt l i).p = need
theorem laid_step {r : Int} {bad : List Int} {l : List Cut} (hv : CutsOk r bad l) {P : List Plan} {need : Int} {s : Nat} {st : List Int} (h : LaidCuts r bad l P need s st) (hP : ∀ s,s < 2 ^ l.length → PlanOk r bad l s (planAt P s)) (hl : st.length = l.length) (hs : s < 2 ^ l.length) (h0 : s ≠ 0) :
  ∃ i : Nat,i < l.length ∧ s.testBit i = true ∧ (planAt P s).last = i ∧ 0 ≤ (planAt P s).start ∧ LaidCuts r bad l P need (andN s (2 ^ i)) (st.set i (planAt P s).start):=by
 have hs63 : s < 9223372036854775808:=by
  have : 2 ^ l.length ≤ 2 ^ 8:=Nat.pow_le_pow_right (by omega) hv.ll
  omega
 obtain ⟨_,hex⟩:=hP s hs;obtain ⟨i,h1,h2,h3,e,h4,h5,h6,h7⟩:=hex h0;have hlt:=andN_lt hs63 h2;have hfe : (planAt P (andN s (2 ^ i))).fin = e:=(hP _ (by omega)).1.uniq h5
 have hcv:=hv.cc _ (cutAt_mem h1);obtain ⟨hst,_⟩:=start_spec (r:=r) (bad:=bad) (c:=cutAt l i) hv.rr hv.bb hcv.2 h4;rw [← h6] at hst;have hle:=hst.le;have hfn : (planAt P s).fin ≤ need:=by
  rcases h.top with q | ⟨j,q1,q2,q3⟩
  ·omega
  ·have:=(h.each j q1 q2).2
   have:=hv.cc _ (cutAt_mem q1);omega
 have hbit:=fun j => andN_pow (s:=s) (i:=i) (j:=j) hs63
 refine ⟨i,h1,h2,h3,by omega,⟨fun j q1 q2 => ?_,fun j k q1 q2 q3 q4 q5 => ?_,?_⟩⟩
 ·rw [stAt_set (by omega),hfe]
  by_cases c : j = i
  ·subst c
   rw [if_pos rfl];exact ⟨⟨by omega,hst.ok.1,hst.ok.2,by omega⟩,hle⟩
  ·rw [if_neg c]
   rw [hbit] at q2;have q2 : s.testBit j = false:=by simpa [c] using q2
   obtain ⟨k1,k2⟩:=h.each j q1 q2;exact ⟨k1,by omega⟩
 ·rw [hbit] at q4 q5
  rw [stAt_set (by omega),stAt_set (by omega)]
  by_cases c : j = i
  ·subst c
   have c2 : k ≠ j:=fun e => q3 e.symm
   have q5 : s.testBit k = false:=by simpa [c2] using q5
   rw [if_pos rfl,if_neg c2];have:=(h.each k q2 q5).2;left; omega
  ·have q4' : s.testBit j = false:=by simpa [c] using q4
   rw [if_neg c];by_cases c2 : k = i
   ·subst c2
    rw [if_pos rfl];have:=(h.each j q1 q4').2;right; omega
   ·have q5' : s.testBit k = false:=by simpa [c2] using q5
    rw [if_neg c2];exact h.apart j k q1 q2 q3 q4' q5'
 ·right
  rcases h.top with q | ⟨j,q1,q2,q3⟩
  ·refine ⟨i,h1,by rw [hbit]; simp,?_⟩
   rw [stAt_set (by omega),if_pos rfl]; omega
  ·refine ⟨j,q1,by rw [hbit,q2]; rfl,?_⟩
   have c : j ≠ i:=fun e => by subst e; rw [h2] at q2; cases q2
   rw [stAt_set (by omega),if_neg c]; exact q3
theorem Cut_ok (r : Int) (bad : List Int) (l : List Cut) (h : cutsE r bad l = 0) : ∃ q,lim F 19 [iv r,.list 1 (bad.map fun n => iv n),.list 2 (l.map Cut.av)] = some q ∧
  ∃ (st : List Int) (need : Int),q = (.tuple [.own 1 (st.map fun n => iv n),iv need,iv 0],[]) ∧ Best r bad l (fun _ => true) 0 need ∧ CutsFit r bad l need st:=by
 have hv:=cutsE_zero h;have hn:=newTailor_ok r bad l;rw [if_pos h,h] at hn;obtain ⟨q,hp,P,rfl,hlP,hP⟩:=plans_ok r bad l hv;simp only [tailorV] at hn hp;have hl8:=hv.ll;have hN : 2 ^ l.length ≤ 256:=Nat.le_trans (Nat.pow_le_pow_right (n:=2) (by omega) hl8) (by omega)
 have hN0 : 0 < 2 ^ l.length:=Nat.pow_pos (by omega)
 have hbit : ∀ i,(2 ^ l.length - 1).testBit i = decide (i < l.length):=fun i => Nat.testBit_two_pow_sub_one _ _
 have hneed : Best r bad l (fun _ => true) 0 (planAt P (2 ^ l.length - 1)).fin:=best_congr (fun i hi => by rw [hbit]; simp [hi]) (hP _ (by omega)).1
 have hzero : (planAt P 0).fin = 0:=(best_none fun i _ => Nat.zero_testBit i).1 (hP 0 hN0).1
 have hstep:=fun {s : Nat} {st : List Int} (hL : LaidCuts r bad l P (planAt P (2 ^ l.length - 1)).fin s st) hl hs h0 => laid_step hv hL hP hl hs h0
 have hinit : LaidCuts r bad l P (planAt P (2 ^ l.length - 1)).fin (2 ^ l.length - 1) (List.replicate l.length 0):=by
  refine ⟨fun i h1 h2 => ?_,fun i k h1 h2 h3 h4 => ?_,.inl rfl⟩
  ·rw [hbit] at h2; simp at h2; omega
  ·rw [hbit] at h4; simp at h4; omega
 have hlen0 : l.length = 0 → (planAt P (2 ^ l.length - 1)).fin = 0:=fun e => by rw [e]; exact hzero
 clear hbit hzero;generalize hNN : 2 ^ l.length = N at *;generalize hnd : (planAt P (N - 1)).fin = need at *;refine lim_ex (fn:=a19) (k:=3) (res:=[.tmp 6,.tmp 7,.tmp 8]) rfl rfl rfl (by simp -implicitDefEqProofs(maxSteps:=9^7)(disch:=first|exact Yo rfl|omega|(simp only[go_sem]<;>omega)|fail)only[go_sem]) ?_
 try delta mvA
 try delta opA
 try delta tA
 simp -implicitDefEqProofs(maxSteps:=9^7)(disch:=first|exact Yo rfl|omega|(simp only[go_sem]<;>omega)|fail)only[go_sem]
 repeat(first|apply Ya|apply Yb|apply Yc|((first|apply Yd|apply Ye|apply Yf|apply Yg|apply Yh);simp -implicitDefEqProofs(maxSteps:=9^7)(disch:=first|exact Yo rfl|omega|(simp only[go_sem]<;>omega)|fail)only[go_sem,hn,hp,hlP]<;>try with_reducible rfl)|apply Yi|apply Yj|apply Yk|apply Yl|apply Ym|apply Yn)
 apply Wp.loopM (fun k fr => ∃ st : List Int,fr = ⟨[(6,.slice 384 0 l.length),(10,.slice 640 0 N),(11,iv (N - 1 : Nat)),(12,iv k)],[(384,.arr 1 (st.map fun n => iv n)),(640,.arr 3 (P.map Plan.av))],[],10000000⟩ ∧ st.length = l.length ∧ k < N ∧ LaidCuts r bad l P need k st)
 ·simp -implicitDefEqProofs(maxSteps:=9^7)(disch:=first|exact Yo rfl|omega|(simp only[go_sem]<;>omega)|fail)only[go_sem,norm_eq,Ok.some]
  refine ⟨N - 1,List.replicate l.length 0,?_,by simp,by omega,hinit⟩
  have : ((N : Nat) : Int) - 1 = ((N - 1 : Nat) : Int):=by omega
  simp [this]
 rintro k fr ⟨st,rfl,hst,hk,hL⟩;by_cases hk0 : k = 0
 ·subst hk0
  have hxp : P[N - 1]? = some (planAt P (N - 1)):=planAt_eq (by omega)
  have hlt : ((N - 1 : Nat) : Int) < N:=by omega
  clear hstep hinit;repeat(first|apply Ya|apply Yb|apply Yc|((first|apply Yd|apply Ye|apply Yf|apply Yg|apply Yh);simp -implicitDefEqProofs(maxSteps:=9^7)(disch:=first|exact Yo rfl|omega|(simp only[go_sem]<;>omega)|fail)only[go_sem,Int.lt_irrefl,List.getElem?_map,hxp,Option.map_some,Plan.av.eq_1,hlt,hnd]<;>try with_reducible rfl)|apply Yi|apply Yj|apply Yk|apply Yl|apply Ym|apply Yn)
  refine finp_ret (r:=(.tuple [.own 1 (st.map fun n => iv n),iv need,iv 0],[])) ?_ ⟨st,need,rfl,hneed,hst,fun i hi => (hL.each i hi (Nat.zero_testBit i)).1,fun i k h1 h2 h3 => hL.apart i k h1 h2 h3 (Nat.zero_testBit i) (Nat.zero_testBit k),fun hne => ?_,hlen0⟩
  ·simp -implicitDefEqProofs(maxSteps:=9^7)(disch:=first|exact Yo rfl|omega|(simp only[go_sem]<;>omega)|fail)only[go_sem,hst]
  ·rcases hL.top with q | ⟨i,h1,_,h3⟩
   ·have h0 : 0 < l.length:=by omega
    have:=(hL.each 0 h0 (Nat.zero_testBit 0)).1;have hz : (planAt P 0).fin = 0:=(best_none fun i _ => Nat.zero_testBit i).1 (hP 0 hN0).1
    have:=this.fin;have:=this;have:=(hL.each 0 h0 (Nat.zero_testBit 0)).1.pos;have:=(hv.cc _ (cutAt_mem h0)).1;omega
   ·exact ⟨i,h1,h3⟩
 ·obtain ⟨i,h1,h2,h3,h4,h5⟩:=hstep hL hst hk hk0
  have hx:=planAt_eq (l:=P) (s:=k) (by omega)
  have f3:=w_shl1 i (by omega)
  have f4:=w_andN k (2 ^ i) (by omega)
  have hlt:=andN_lt (s:=k) (i:=i) (by omega) h2
  have hpos : (0 : Int) < k:=by omega
  have hkN : (k : Int) < N:=by omega
  have hxs : st[i]? = some (stAt st i):=stAt_eq (by omega)
  clear hstep hinit hL hP;repeat(first|apply Ya|apply Yb|apply Yc|((first|apply Yd|apply Ye|apply Yf|apply Yg|apply Yh);simp -implicitDefEqProofs(maxSteps:=9^7)(disch:=first|exact Yo rfl|omega|(simp only[go_sem]<;>omega)|fail)only[go_sem,hpos,hkN,List.getElem?_map,hx,hxs,Option.map_some,Plan.av.eq_1,h3,f3,f4,show (i : Int) < l.length by omega]<;>try with_reducible rfl)|apply Yi|apply Yj|apply Yk|apply Yl|apply Ym|apply Yn)
  apply Ys
  ·simp -implicitDefEqProofs(maxSteps:=9^7)(disch:=first|exact Yo rfl|omega|(simp only[go_sem]<;>omega)|fail)only[go_sem,norm_eq,Ok.some]; with_reducible rfl
  refine ⟨_,hlt,st.set i (planAt P k).start,by simp,by simp [hst],by omega,h5⟩
end Go.Abs.Seam
