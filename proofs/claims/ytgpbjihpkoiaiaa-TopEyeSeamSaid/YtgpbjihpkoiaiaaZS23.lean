/-
 Several texts: ZS20, ZS21, ZS22, ZS23.
-/
import Derived.Test.YtgpbjihpkoiaiaaZS5
import Derived.Test.YtgpbjihpkoiaiaaWpE
set_option linter.all false
namespace Go.Abs.Seam
set_option maxRecDepth 10000
set_option maxHeartbeats 1000000
structure Cut where
 b : Int
 p : Int
def Cut.av (c : Cut) : AV := .agg [iv c.b,iv c.p]
abbrev CutBad (r : Int) (c : Cut) : Prop := ¬ (1 ≤ c.p ∧ c.p ≤ 200) ∨ ¬ (0 ≤ c.b ∧ c.b ≤ r - 1)
open Classical in
noncomputable def cutsE (r : Int) (bad : List Int) (l : List Cut) : Int :=
 if ¬ (1 ≤ r ∧ r ≤ 100) then 3 else if 40 < bad.length ∨ 8 < l.length then 5 else if (bad.all fun n => decide (0 ≤ n ∧ n ≤ 100000)) = false then 2
 else if (l.any fun c => decide (CutBad r c)) = true then 2 else if ∃ i : Nat,i + 1 < bad.length ∧ bad[i + 1]?.getD 0 ≤ bad[i]?.getD 0 then 6 else 0
structure CutsOk (r : Int) (bad : List Int) (l : List Cut) : Prop where
 rr : 1 ≤ r ∧ r ≤ 100
 lb : bad.length ≤ 40
 ll : l.length ≤ 8
 bb : ∀ b ∈ bad,0 ≤ b ∧ b ≤ 100000
 cc : ∀ c ∈ l,(1 ≤ c.p ∧ c.p ≤ 200) ∧ (0 ≤ c.b ∧ c.b ≤ r - 1)
theorem cutsE_zero {r : Int} {bad : List Int} {l : List Cut} (h : cutsE r bad l = 0) : CutsOk r bad l := by
 unfold cutsE at h;by_cases h1 : 1 ≤ r ∧ r ≤ 100
 ·rw [if_neg (by simp [h1])] at h
  by_cases h2 : 40 < bad.length ∨ 8 < l.length
  ·rw [if_pos h2] at h; omega
  ·rw [if_neg h2] at h
   by_cases h3 : (bad.all fun n => decide (0 ≤ n ∧ n ≤ 100000)) = false
   ·rw [if_pos h3] at h; omega
   ·rw [if_neg h3] at h
    by_cases h4 : (l.any fun c => decide (CutBad r c)) = true
    ·rw [if_pos h4] at h; omega
    ·refine ⟨h1,by omega,by omega,fun b hb => ?_,fun c hc => ?_⟩
     ·rw [Bool.not_eq_false,List.all_eq_true] at h3
      exact of_decide_eq_true (h3 b hb)
     ·rw [Bool.not_eq_true,List.any_eq_false] at h4
      have := h4 c hc;simp only [decide_eq_true_eq,CutBad] at this;omega
 ·rw [if_pos h1] at h; omega
end Go.Abs.Seam
set_option linter.all false
namespace Go.Abs.Seam
set_option maxRecDepth 10000
set_option maxHeartbeats 1000000
theorem tailor1_ok (c : Cut) (r : Int) (hr : 1 ≤ r ∧ r ≤ 100) : lim F 147 [.agg [iv c.b,iv c.p],.iptr (.agg [iv r]) 0] = some (.bool (decide (CutBad r c)),[]) := by
 have w1 := within_ok 1 200 [c.p] (by simp)
 have w2 := within_ok 0 (r - 1) [c.b] (by simp)
 simp only [List.map_cons,List.map_nil,List.all_cons,List.all_nil,Bool.and_true] at w1 w2;by_cases h1 : 1 ≤ c.p ∧ c.p ≤ 200
 ·by_cases h2 : 0 ≤ c.b ∧ c.b ≤ r - 1
  all_goals
   refine Yr (fn:=a147) (k:=2) (res:=[.tmp 3]) rfl rfl rfl (by simp -implicitDefEqProofs(maxSteps:=9^7)(disch:=first|exact Yo rfl|omega|(simp only[go_sem]<;>omega)|fail)only[go_sem]) ?_
   try delta mvA
   try delta opA
   try delta tA
   simp -implicitDefEqProofs(maxSteps:=9^7)(disch:=first|exact Yo rfl|omega|(simp only[go_sem]<;>omega)|fail)only[go_sem]
   repeat(first|apply Ya|apply Yb|apply Yc|((first|apply Yd|apply Ye|apply Yf|apply Yg|apply Yh);simp -implicitDefEqProofs(maxSteps:=9^7)(disch:=first|exact Yo rfl|omega|(simp only[go_sem]<;>omega)|fail)only[go_sem,w1,w2,h1,h2]<;>try with_reducible rfl)|apply Yi|apply Yj|apply Yk|apply Yl|apply Ym|apply Yn)
   simp [CutBad,h1,h2]
 ·refine Yr (fn:=a147) (k:=2) (res:=[.tmp 3]) rfl rfl rfl (by simp -implicitDefEqProofs(maxSteps:=9^7)(disch:=first|exact Yo rfl|omega|(simp only[go_sem]<;>omega)|fail)only[go_sem]) ?_
  try delta mvA
  try delta opA
  try delta tA
  simp -implicitDefEqProofs(maxSteps:=9^7)(disch:=first|exact Yo rfl|omega|(simp only[go_sem]<;>omega)|fail)only[go_sem]
  repeat(first|apply Ya|apply Yb|apply Yc|((first|apply Yd|apply Ye|apply Yf|apply Yg|apply Yh);simp -implicitDefEqProofs(maxSteps:=9^7)(disch:=first|exact Yo rfl|omega|(simp only[go_sem]<;>omega)|fail)only[go_sem,w1,w2,h1]<;>try with_reducible rfl)|apply Yi|apply Yj|apply Yk|apply Yl|apply Ym|apply Yn)
  simp [CutBad,h1]
theorem index_cuts (l : List Cut) (p : Cut → Bool) (f : Nat) (x : AV) (hl : l.length < 1000000000) (hp : ∀ n ∈ l,lim F f [.agg [iv n.b,iv n.p],.iptr x 0] = some (.bool (p n),[])) :
  lim F 185 [.list 2 (l.map Cut.av),.func f [.iptr x 0]] = some (iv (idxF p l),[]) := by
 refine Yr (fn:=a185) (k:=2) (res:=[.tmp 4]) rfl rfl rfl (by simp -implicitDefEqProofs(maxSteps:=9^7)(disch:=first|exact Yo rfl|omega|(simp only[go_sem]<;>omega)|fail)only[go_sem]) ?_
 try delta mvA
 try delta opA
 try delta tA
 simp -implicitDefEqProofs(maxSteps:=9^7)(disch:=first|exact Yo rfl|omega|(simp only[go_sem]<;>omega)|fail)only[go_sem]
 repeat(first|apply Ya|apply Yb|apply Yc|((first|apply Yd|apply Ye|apply Yf|apply Yg|apply Yh);simp -implicitDefEqProofs(maxSteps:=9^7)(disch:=first|exact Yo rfl|omega|(simp only[go_sem]<;>omega)|fail)only[go_sem]<;>try with_reducible rfl)|apply Yi|apply Yj|apply Yk|apply Yl|apply Ym|apply Yn)
 apply Yt l.length (fun i => ⟨[(0,.list 2 (l.map Cut.av)),(1,.func f [.iptr x 0]),(7,iv l.length),(8,iv i)],[],[],10000000⟩) (fun i => ∀ j (hj : j < l.length),j < i → p l[j] = false)
 ·simp -implicitDefEqProofs(maxSteps:=9^7)(disch:=first|exact Yo rfl|omega|(simp only[go_sem]<;>omega)|fail)only[go_sem,norm_eq,Ok.some]
  try rfl
 ·intro j hj h; omega
 intro i hi hn;by_cases h : i < l.length
 ·have hc := hp l[i] (List.getElem_mem h)
  cases hb : p l[i] with
  | true =>
   rw [hb] at hc;repeat(first|apply Ya|apply Yb|apply Yc|((first|apply Yd|apply Ye|apply Yf|apply Yg|apply Yh);simp -implicitDefEqProofs(maxSteps:=9^7)(disch:=first|exact Yo rfl|omega|(simp only[go_sem]<;>omega)|fail)only[go_sem,h,List.getElem?_map,List.getElem?_eq_getElem h,Option.map_some,hc,Int.ofNat_lt,Cut.av.eq_1]<;>try with_reducible rfl)|apply Yi|apply Yj|apply Yk|apply Yl|apply Ym|apply Yn)
   rw [idxF_at h hb hn]
  | false =>
   rw [hb] at hc;repeat(first|apply Ya|apply Yb|apply Yc|((first|apply Yd|apply Ye|apply Yf|apply Yg|apply Yh);simp -implicitDefEqProofs(maxSteps:=9^7)(disch:=first|exact Yo rfl|omega|(simp only[go_sem]<;>omega)|fail)only[go_sem,h,List.getElem?_map,List.getElem?_eq_getElem h,Option.map_some,hc,Int.ofNat_lt,Cut.av.eq_1]<;>try with_reducible rfl)|apply Yi|apply Yj|apply Yk|apply Yl|apply Ym|apply Yn)
   apply Ys
   ·simp -implicitDefEqProofs(maxSteps:=9^7)(disch:=first|exact Yo rfl|omega|(simp only[go_sem]<;>omega)|fail)only[go_sem,norm_eq,Ok.some]; with_reducible rfl
   refine ⟨h,by simp,fun j hj hji => ?_⟩
   by_cases e : j = i
   ·subst e; exact hb
   ·exact hn j hj (by omega)
 ·repeat(first|apply Ya|apply Yb|apply Yc|((first|apply Yd|apply Ye|apply Yf|apply Yg|apply Yh);simp -implicitDefEqProofs(maxSteps:=9^7)(disch:=first|exact Yo rfl|omega|(simp only[go_sem]<;>omega)|fail)only[go_sem,h,Int.ofNat_lt]<;>try with_reducible rfl)|apply Yi|apply Yj|apply Yk|apply Yl|apply Ym|apply Yn)
  rw [idxF_no fun j hj => hn j hj (by omega)]
theorem contains_cuts (l : List Cut) (p : Cut → Bool) (f : Nat) (x : AV) (hl : l.length < 1000000000) (hp : ∀ n ∈ l,lim F f [.agg [iv n.b,iv n.p],.iptr x 0] = some (.bool (p n),[])) :
  lim F 148 [.list 2 (l.map Cut.av),.func f [.iptr x 0]] = some (.bool (l.any p),[]) := by
 have h := index_cuts l p f x hl hp;refine Yr (fn:=a148) (k:=2) (res:=[.tmp 4]) rfl rfl rfl (by simp -implicitDefEqProofs(maxSteps:=9^7)(disch:=first|exact Yo rfl|omega|(simp only[go_sem]<;>omega)|fail)only[go_sem]) ?_
 try delta mvA
 try delta opA
 try delta tA
 simp -implicitDefEqProofs(maxSteps:=9^7)(disch:=first|exact Yo rfl|omega|(simp only[go_sem]<;>omega)|fail)only[go_sem]
 repeat(first|apply Ya|apply Yb|apply Yc|((first|apply Yd|apply Ye|apply Yf|apply Yg|apply Yh);simp -implicitDefEqProofs(maxSteps:=9^7)(disch:=first|exact Yo rfl|omega|(simp only[go_sem]<;>omega)|fail)only[go_sem,h,idxF_ge]<;>try with_reducible rfl)|apply Yi|apply Yj|apply Yk|apply Yl|apply Ym|apply Yn)
def tailorV (r : Int) (bad : List Int) (l : List Cut) : AV := .agg [iv r,.list 1 (bad.map fun n => iv n),.list 2 (l.map Cut.av)]
def tailor0 : AV := .agg [iv 0,.own 1 [],.own 2 []]
open Classical in
theorem newTailor_ok (r : Int) (bad : List Int) (l : List Cut) : lim F 91 [iv r,.list 1 (bad.map fun n => iv n),.list 2 (l.map Cut.av)] =
  some (.tuple [if cutsE r bad l = 0 then tailorV r bad l else tailor0,iv (cutsE r bad l)],[]) := by
 unfold tailorV tailor0;generalize he : cutsE r bad l = e;unfold cutsE at he;have w1 := within_ok 1 100 [r] (by simp)
 simp only [List.map_cons,List.map_nil,List.all_cons,List.all_nil,Bool.and_true] at w1;by_cases h1 : 1 ≤ r ∧ r ≤ 100
 ·rw [decide_eq_true h1] at w1
  rw [if_neg (by simp [h1])] at he
  by_cases h2 : 40 < bad.length ∨ 8 < l.length
  ·rw [if_pos h2] at he; subst he
   by_cases h3 : 40 < bad.length
   ·refine Yr (fn:=a91) (k:=3) (res:=[.cell 6 3 true,.tmp 7]) rfl rfl rfl (by simp -implicitDefEqProofs(maxSteps:=9^7)(disch:=first|exact Yo rfl|omega|(simp only[go_sem]<;>omega)|fail)only[go_sem]) ?_
    try delta mvA
    try delta opA
    try delta tA
    simp -implicitDefEqProofs(maxSteps:=9^7)(disch:=first|exact Yo rfl|omega|(simp only[go_sem]<;>omega)|fail)only[go_sem]
    repeat(first|apply Ya|apply Yb|apply Yc|((first|apply Yd|apply Ye|apply Yf|apply Yg|apply Yh);simp -implicitDefEqProofs(maxSteps:=9^7)(disch:=first|exact Yo rfl|omega|(simp only[go_sem]<;>omega)|fail)only[go_sem,w1,show (40 : Int) < bad.length by omega]<;>try with_reducible rfl)|apply Yi|apply Yj|apply Yk|apply Yl|apply Ym|apply Yn)
    try rfl
   ·refine Yr (fn:=a91) (k:=3) (res:=[.cell 6 3 true,.tmp 7]) rfl rfl rfl (by simp -implicitDefEqProofs(maxSteps:=9^7)(disch:=first|exact Yo rfl|omega|(simp only[go_sem]<;>omega)|fail)only[go_sem]) ?_
    try delta mvA
    try delta opA
    try delta tA
    simp -implicitDefEqProofs(maxSteps:=9^7)(disch:=first|exact Yo rfl|omega|(simp only[go_sem]<;>omega)|fail)only[go_sem]
    repeat(first|apply Ya|apply Yb|apply Yc|((first|apply Yd|apply Ye|apply Yf|apply Yg|apply Yh);simp -implicitDefEqProofs(maxSteps:=9^7)(disch:=first|exact Yo rfl|omega|(simp only[go_sem]<;>omega)|fail)only[go_sem,w1,show ¬ (40 : Int) < bad.length by omega,show (8 : Int) < l.length by omega]<;>try with_reducible rfl)|apply Yi|apply Yj|apply Yk|apply Yl|apply Ym|apply Yn)
    try rfl
  ·have k1 : ¬ (40 : Int) < bad.length := by omega
   have k2 : ¬ (8 : Int) < l.length := by omega
   rw [if_neg h2] at he;have hb40 : bad.length ≤ 40 := by omega
   have hl8 : l.length ≤ 8 := by omega
   clear h2;have w2 := within_ok 0 100000 bad (by omega)
   by_cases h3 : (bad.all fun n => decide (0 ≤ n ∧ n ≤ 100000)) = false
   ·rw [if_pos h3] at he; subst he
    rw [h3] at w2;refine Yr (fn:=a91) (k:=3) (res:=[.cell 6 3 true,.tmp 7]) rfl rfl rfl (by simp -implicitDefEqProofs(maxSteps:=9^7)(disch:=first|exact Yo rfl|omega|(simp only[go_sem]<;>omega)|fail)only[go_sem]) ?_
    try delta mvA
    try delta opA
    try delta tA
    simp -implicitDefEqProofs(maxSteps:=9^7)(disch:=first|exact Yo rfl|omega|(simp only[go_sem]<;>omega)|fail)only[go_sem]
    repeat(first|apply Ya|apply Yb|apply Yc|((first|apply Yd|apply Ye|apply Yf|apply Yg|apply Yh);simp -implicitDefEqProofs(maxSteps:=9^7)(disch:=first|exact Yo rfl|omega|(simp only[go_sem]<;>omega)|fail)only[go_sem,w1,k1,k2,w2]<;>try with_reducible rfl)|apply Yi|apply Yj|apply Yk|apply Yl|apply Ym|apply Yn)
    try rfl
   ·rw [if_neg h3] at he
    rw [Bool.not_eq_false] at h3;rw [h3] at w2;have w3 := contains_cuts l (fun c => decide (CutBad r c)) 147 (.agg [iv r]) (by omega) fun c _ => tailor1_ok c r h1
    by_cases h4 : (l.any fun c => decide (CutBad r c)) = true
    ·rw [if_pos h4] at he; subst he
     rw [h4] at w3;refine Yr (fn:=a91) (k:=3) (res:=[.cell 6 3 true,.tmp 7]) rfl rfl rfl (by simp -implicitDefEqProofs(maxSteps:=9^7)(disch:=first|exact Yo rfl|omega|(simp only[go_sem]<;>omega)|fail)only[go_sem]) ?_
     try delta mvA
     try delta opA
     try delta tA
     simp -implicitDefEqProofs(maxSteps:=9^7)(disch:=first|exact Yo rfl|omega|(simp only[go_sem]<;>omega)|fail)only[go_sem]
     repeat(first|apply Ya|apply Yb|apply Yc|((first|apply Yd|apply Ye|apply Yf|apply Yg|apply Yh);simp -implicitDefEqProofs(maxSteps:=9^7)(disch:=first|exact Yo rfl|omega|(simp only[go_sem]<;>omega)|fail)only[go_sem,w1,k1,k2,w2,w3]<;>try with_reducible rfl)|apply Yi|apply Yj|apply Yk|apply Yl|apply Ym|apply Yn)
     try rfl
    ·rw [if_neg h4] at he
     rw [Bool.not_eq_true] at h4;rw [h4] at w3;refine Yr (fn:=a91) (k:=3) (res:=[.cell 6 3 true,.tmp 7]) rfl rfl rfl (by simp -implicitDefEqProofs(maxSteps:=9^7)(disch:=first|exact Yo rfl|omega|(simp only[go_sem]<;>omega)|fail)only[go_sem]) ?_
     try delta mvA
     try delta opA
     try delta tA
     simp -implicitDefEqProofs(maxSteps:=9^7)(disch:=first|exact Yo rfl|omega|(simp only[go_sem]<;>omega)|fail)only[go_sem]
     repeat(first|apply Ya|apply Yb|apply Yc|((first|apply Yd|apply Ye|apply Yf|apply Yg|apply Yh);simp -implicitDefEqProofs(maxSteps:=9^7)(disch:=first|exact Yo rfl|omega|(simp only[go_sem]<;>omega)|fail)only[go_sem,w1,k1,k2,w2,w3]<;>try with_reducible rfl)|apply Yi|apply Yj|apply Yk|apply Yl|apply Ym|apply Yn)
     apply Yt bad.length (fun i => ⟨[(1,.list 1 (bad.map fun n => iv n)),(2,.list 2 (l.map Cut.av)),(3,.ptr 192 0 0),(6,.ptr 384 0 0),(34,iv bad.length),(35,iv i)],
      [(192,.box [iv r]),(384,.box [iv 0,.slice 306145 0 0,.slice 306146 0 0]),(306145,.arr 1 []),(306146,.arr 2 [])],[],10000000⟩) (fun i => ∀ j,j + 1 < bad.length → j + 1 < i → ¬ bad[j + 1]?.getD 0 ≤ bad[j]?.getD 0)
     ·simp -implicitDefEqProofs(maxSteps:=9^7)(disch:=first|exact Yo rfl|omega|(simp only[go_sem]<;>omega)|fail)only[go_sem,norm_eq,Ok.some]
      try rfl
     ·intro j hj h; omega
     intro i hi hok;by_cases h : i < bad.length
     ·have x1 : bad[i]? = some bad[i] := List.getElem?_eq_getElem h
      cases i with
      | zero =>
       repeat(first|apply Ya|apply Yb|apply Yc|((first|apply Yd|apply Ye|apply Yf|apply Yg|apply Yh);simp -implicitDefEqProofs(maxSteps:=9^7)(disch:=first|exact Yo rfl|omega|(simp only[go_sem]<;>omega)|fail)only[go_sem,show (0 : Int) < bad.length by omega,List.getElem?_map,x1,Option.map_some]<;>try with_reducible rfl)|apply Yi|apply Yj|apply Yk|apply Yl|apply Ym|apply Yn)
       apply Ys
       ·simp -implicitDefEqProofs(maxSteps:=9^7)(disch:=first|exact Yo rfl|omega|(simp only[go_sem]<;>omega)|fail)only[go_sem,norm_eq,Ok.some]; with_reducible rfl
       exact ⟨h,by simp,fun j _ hj => by omega⟩
      | succ i =>
       have x2 : bad[i]? = some bad[i] := List.getElem?_eq_getElem (by omega)
       by_cases q : bad[i + 1] ≤ bad[i]
       ·rw [if_pos ⟨i,h,by simpa [x1,x2] using q⟩] at he; subst he
        repeat(first|apply Ya|apply Yb|apply Yc|((first|apply Yd|apply Ye|apply Yf|apply Yg|apply Yh);simp -implicitDefEqProofs(maxSteps:=9^7)(disch:=first|exact Yo rfl|omega|(simp only[go_sem]<;>omega)|fail)only[go_sem,show ((i + 1 : Nat) : Int) < bad.length by omega,show (0 : Int) < ((i + 1 : Nat) : Int) by omega,List.getElem?_map,x1,x2,Option.map_some,q,show (((i + 1 : Nat) : Int) - 1).toNat = i by omega]<;>try with_reducible rfl)|apply Yi|apply Yj|apply Yk|apply Yl|apply Ym|apply Yn)
        try rfl
       ·repeat(first|apply Ya|apply Yb|apply Yc|((first|apply Yd|apply Ye|apply Yf|apply Yg|apply Yh);simp -implicitDefEqProofs(maxSteps:=9^7)(disch:=first|exact Yo rfl|omega|(simp only[go_sem]<;>omega)|fail)only[go_sem,show ((i + 1 : Nat) : Int) < bad.length by omega,show (0 : Int) < ((i + 1 : Nat) : Int) by omega,List.getElem?_map,x1,x2,Option.map_some,q,show (((i + 1 : Nat) : Int) - 1).toNat = i by omega]<;>try with_reducible rfl)|apply Yi|apply Yj|apply Yk|apply Yl|apply Ym|apply Yn)
        apply Ys
        ·simp -implicitDefEqProofs(maxSteps:=9^7)(disch:=first|exact Yo rfl|omega|(simp only[go_sem]<;>omega)|fail)only[go_sem,norm_eq,Ok.some]; with_reducible rfl
        refine ⟨h,by simp,fun j hj hji => ?_⟩
        by_cases e : j = i
        ·subst e; simpa [x1,x2] using q
        ·exact hok j hj (by omega)
     ·rw [if_neg fun ⟨j,hj,hc⟩ => hok j hj (by omega) hc] at he; subst he
      obtain rfl : i = bad.length := by omega
      repeat(first|apply Ya|apply Yb|apply Yc|((first|apply Yd|apply Ye|apply Yf|apply Yg|apply Yh);simp -implicitDefEqProofs(maxSteps:=9^7)(disch:=first|exact Yo rfl|omega|(simp only[go_sem]<;>omega)|fail)only[go_sem,Int.lt_irrefl]<;>try with_reducible rfl)|apply Yi|apply Yj|apply Yk|apply Yl|apply Ym|apply Yn)
      try rfl
 ·rw [decide_eq_false h1] at w1
  rw [if_pos h1] at he; subst he
  refine Yr (fn:=a91) (k:=3) (res:=[.cell 6 3 true,.tmp 7]) rfl rfl rfl (by simp -implicitDefEqProofs(maxSteps:=9^7)(disch:=first|exact Yo rfl|omega|(simp only[go_sem]<;>omega)|fail)only[go_sem]) ?_
  try delta mvA
  try delta opA
  try delta tA
  simp -implicitDefEqProofs(maxSteps:=9^7)(disch:=first|exact Yo rfl|omega|(simp only[go_sem]<;>omega)|fail)only[go_sem]
  repeat(first|apply Ya|apply Yb|apply Yc|((first|apply Yd|apply Ye|apply Yf|apply Yg|apply Yh);simp -implicitDefEqProofs(maxSteps:=9^7)(disch:=first|exact Yo rfl|omega|(simp only[go_sem]<;>omega)|fail)only[go_sem,w1]<;>try with_reducible rfl)|apply Yi|apply Yj|apply Yk|apply Yl|apply Ym|apply Yn)
  try rfl
end Go.Abs.Seam
set_option linter.all false
namespace Go.Abs.Seam
set_option maxRecDepth 10000
set_option maxHeartbeats 1000000
def FineAt (bad : List Int) (s p : Int) : Prop := ∀ b ∈ bad,¬ (s ≤ b ∧ b ≤ s + p - 1)
def OkAt (r : Int) (bad : List Int) (c : Cut) (s : Int) : Prop := s % r = c.b ∧ FineAt bad s c.p
structure IsStart (r : Int) (bad : List Int) (c : Cut) (f s : Int) : Prop where
 le : f ≤ s
 ok : OkAt r bad c s
 no : ∀ x,f ≤ x → x < s → ¬ OkAt r bad c x
theorem IsStart.uniq {r : Int} {bad : List Int} {c : Cut} {f s s' : Int} (h : IsStart r bad c f s) (h' : IsStart r bad c f s') : s = s' := by
 rcases Int.lt_trichotomy s s' with q | q | q
 ·exact absurd h.ok (h'.no s h.le q)
 ·exact q
 ·exact absurd h'.ok (h.no s' h'.le q)
open Classical in
noncomputable def stepS (r : Int) (bad : List Int) (c : Cut) : Nat → Int → Int
 | 0,x => x
 | k + 1,x => if OkAt r bad c x then x else stepS r bad c k (x + 1)
noncomputable def startF (r : Int) (bad : List Int) (c : Cut) (f : Int) : Int := stepS r bad c 100200 f
theorem step_spec {r : Int} {bad : List Int} {c : Cut} : ∀ (k : Nat) (x y : Int),x ≤ y → y ≤ x + k → OkAt r bad c y → IsStart r bad c x (stepS r bad c k x) ∧ stepS r bad c k x ≤ y
 | 0,x,y,h1,h2,h3 => by
  obtain rfl : y = x := by omega
  exact ⟨⟨Int.le_refl _,h3,fun z h1 h2 => by simp only [stepS] at h2; omega⟩,Int.le_refl _⟩
 | k + 1,x,y,h1,h2,h3 => by
  simp only [stepS];by_cases c : OkAt r bad c x
  ·rw [if_pos c]
   exact ⟨⟨Int.le_refl _,c,fun z h1 h2 => by omega⟩,h1⟩
  ·rw [if_neg c]
   have hne : x ≠ y := fun e => c (e ▸ h3)
   obtain ⟨⟨i1,i2,i3⟩,i4⟩ := step_spec k (x + 1) y (by omega) (by omega) h3
   refine ⟨⟨by omega,i2,fun z q1 q2 => ?_⟩,i4⟩
   by_cases e : z = x
   ·subst e; exact c
   ·exact i3 z (by omega) q2
theorem next_rem {r b x : Int} (hr : 0 < r) (hb : 0 ≤ b ∧ b < r) : (x + (b + r - x % r) % r) % r = b ∧ 0 ≤ (b + r - x % r) % r ∧ (b + r - x % r) % r < r ∧ ∀ y,x ≤ y → y < x + (b + r - x % r) % r → y % r ≠ b := by
 have h1 := Int.emod_nonneg (b + r - x % r) (by omega : r ≠ 0)
 have h2 := Int.emod_lt_of_pos (b + r - x % r) hr;have hx : x = r * (x / r) + x % r := (Int.mul_ediv_add_emod x r).symm;have hq : b + r - x % r = r * ((b + r - x % r) / r) + (b + r - x % r) % r := (Int.mul_ediv_add_emod _ r).symm;have h3 : (x + (b + r - x % r) % r) % r = b := by
  have e : x + (b + r - x % r) % r = b + r * (x / r + 1 - (b + r - x % r) / r) := by
   rw [Int.mul_sub,Int.mul_add,Int.mul_one]; omega
  rw [e,Int.add_mul_emod_self_left,Int.emod_eq_of_lt hb.1 hb.2]
 refine ⟨h3,h1,h2,fun y q1 q2 q3 => ?_⟩
 have h4 : (x + (b + r - x % r) % r - y) % r = 0 := Int.emod_eq_emod_iff_emod_sub_eq_zero.1 (by rw [h3,q3])
 rw [Int.emod_eq_of_lt (by omega) (by omega)] at h4
 omega
theorem ok_exists {r : Int} {bad : List Int} {c : Cut} (hr : 1 ≤ r ∧ r ≤ 100) (hbad : ∀ b ∈ bad,0 ≤ b ∧ b ≤ 100000) (hc : 0 ≤ c.b ∧ c.b ≤ r - 1) (f : Int) : ∃ y,f ≤ y ∧ y ≤ max f 100001 + 100 ∧ OkAt r bad c y := by
 obtain ⟨h1,h2,h3,_⟩ := next_rem (r := r) (b := c.b) (x := max f 100001) (by omega) (by omega)
 refine ⟨max f 100001 + (c.b + r - (max f 100001) % r) % r,by omega,by omega,h1,fun b hb q => ?_⟩
 have := hbad b hb;omega
theorem start_spec {r : Int} {bad : List Int} {c : Cut} (hr : 1 ≤ r ∧ r ≤ 100) (hbad : ∀ b ∈ bad,0 ≤ b ∧ b ≤ 100000) (hc : 0 ≤ c.b ∧ c.b ≤ r - 1) {f : Int} (hf : 0 ≤ f) : IsStart r bad c f (startF r bad c f) ∧ startF r bad c f ≤ max f 100001 + 100 := by
 obtain ⟨y,h1,h2,h3⟩ := ok_exists hr hbad hc f;have := step_spec 100200 f y h1 (by omega) h3
 exact ⟨this.1,by have := this.2; unfold startF; omega⟩
theorem start_mono {r : Int} {bad : List Int} {c : Cut} (hr : 1 ≤ r ∧ r ≤ 100) (hbad : ∀ b ∈ bad,0 ≤ b ∧ b ≤ 100000) (hc : 0 ≤ c.b ∧ c.b ≤ r - 1) {f f' : Int} (hf : 0 ≤ f) (h : f ≤ f') : startF r bad c f ≤ startF r bad c f' := by
 have h1 := (start_spec hr hbad hc hf).1;have h2 := (start_spec hr hbad hc (by omega : 0 ≤ f')).1
 apply Classical.byContradiction;intro q;exact h1.no _ (by have := h2.le; omega) (by omega) h2.ok
theorem tmod_of {a b : Int} (h : 0 ≤ a) : Int.tmod a b = a % b := Int.tmod_eq_emod_of_nonneg h
end Go.Abs.Seam
set_option linter.all false
namespace Go.Abs.Seam
set_option maxRecDepth 10000
set_option maxHeartbeats 1000000
def InBad (bad : List Int) (at' p : Int) (n : Nat) (la : Int) : Prop :=
 (la = -1 ∧ ∀ j (h : j < bad.length),j < n → ¬ (at' ≤ bad[j] ∧ bad[j] < at' + p)) ∨ (la ∈ bad ∧ at' ≤ la ∧ la < at' + p)
theorem start_ok (r : Int) (bad : List Int) (l : List Cut) (c : Cut) (f : Int) (hr : 1 ≤ r ∧ r ≤ 100) (hl : bad.length ≤ 1000) (hbad : ∀ b ∈ bad,0 ≤ b ∧ b ≤ 100000) (hp : 1 ≤ c.p ∧ c.p ≤ 200) (hc : 0 ≤ c.b ∧ c.b ≤ r - 1) (hf : 0 ≤ f ∧ f ≤ 10000000) :
  lim F 149 [tailorV r bad l,iv f,.agg [iv c.b,iv c.p]] = some (iv (startF r bad c f),[]) := by
 obtain ⟨hs,hs2⟩ := start_spec hr hbad hc hf.1;generalize startF r bad c f = s at *;unfold tailorV;have hr0 : ¬ r = 0 := by omega
 refine Yr (fn:=a149) (k:=3) (res:=[.tmp 6]) rfl rfl rfl (by simp -implicitDefEqProofs(maxSteps:=9^7)(disch:=first|exact Yo rfl|omega|(simp only[go_sem]<;>omega)|fail)only[go_sem]) ?_
 try delta mvA
 try delta opA
 try delta tA
 simp -implicitDefEqProofs(maxSteps:=9^7)(disch:=first|exact Yo rfl|omega|(simp only[go_sem]<;>omega)|fail)only[go_sem]
 repeat(first|apply Ya|apply Yb|apply Yc|((first|apply Yd|apply Ye|apply Yf|apply Yg|apply Yh);simp -implicitDefEqProofs(maxSteps:=9^7)(disch:=first|exact Yo rfl|omega|(simp only[go_sem]<;>omega)|fail)only[go_sem]<;>try with_reducible rfl)|apply Yi|apply Yj|apply Yk|apply Yl|apply Ym|apply Yn)
 apply Wp.loopM (fun k fr => ∃ x,fr = ⟨[(3,.ptr 192 0 0),(5,.ptr 320 0 0),(7,iv x)],[(192,.box [iv r,.list 1 (bad.map fun n => iv n),.list 2 (l.map Cut.av)]),(320,.box [iv c.b,iv c.p])],[],10000000⟩ ∧
  k = (100002 - x).toNat ∧ f ≤ x ∧ x ≤ 10000001 ∧ ∀ y,f ≤ y → y < x → ¬ OkAt r bad c y)
 ·simp -implicitDefEqProofs(maxSteps:=9^7)(disch:=first|exact Yo rfl|omega|(simp only[go_sem]<;>omega)|fail)only[go_sem,norm_eq,Ok.some]
  exact ⟨_,f,rfl,rfl,Int.le_refl _,by omega,fun y h1 h2 => by omega⟩
 rintro k fr ⟨x,rfl,rfl,hfx,hx2,hno⟩;obtain ⟨n1,n2,n3,n4⟩ := next_rem (r := r) (b := c.b) (x := x) (by omega) (by omega)
 have hx0 := Int.emod_nonneg x (by omega : r ≠ 0)
 have hx1 := Int.emod_lt_of_pos x (by omega : 0 < r)
 have t1 := tmod_of (a := x) (b := r) (by omega)
 have t2 := tmod_of (a := c.b + r - x % r) (b := r) (by omega)
 have hno2 : ∀ y,f ≤ y → y < x + (c.b + r - x % r) % r → ¬ OkAt r bad c y := by
  intro y h1 h2 h3;by_cases q : y < x
  ·exact hno y h1 q h3
  ·exact n4 y (by omega) h2 h3.1
 generalize hat : x + (c.b + r - x % r) % r = at' at *;clear n4 hno;repeat(first|apply Ya|apply Yb|apply Yc|((first|apply Yd|apply Ye|apply Yf|apply Yg|apply Yh);simp -implicitDefEqProofs(maxSteps:=9^7)(disch:=first|exact Yo rfl|omega|(simp only[go_sem]<;>omega)|fail)only[go_sem,t1,t2,hat,hr0]<;>try with_reducible rfl)|apply Yi|apply Yj|apply Yk|apply Yl|apply Ym|apply Yn)
 apply Yu bad.length (fun i fr => ∃ la,fr = ⟨[(3,.ptr 192 0 0),(5,.ptr 320 0 0),(7,iv at'),(8,iv la),(30,.list 1 (bad.map fun n => iv n)),(31,iv bad.length),(32,iv i)],
  [(192,.box [iv r,.list 1 (bad.map fun n => iv n),.list 2 (l.map Cut.av)]),(320,.box [iv c.b,iv c.p])],[],10000000⟩ ∧ InBad bad at' c.p i la)
 ·simp -implicitDefEqProofs(maxSteps:=9^7)(disch:=first|exact Yo rfl|omega|(simp only[go_sem]<;>omega)|fail)only[go_sem,norm_eq,Ok.some]
  exact ⟨-1,rfl,.inl ⟨rfl,fun j _ hj => by omega⟩⟩
 rintro i fr hi ⟨la,rfl,hla⟩;by_cases h : i < bad.length
 ·have hb := hbad _ (List.getElem_mem h)
  by_cases q1 : at' ≤ bad[i]
  ·by_cases q2 : bad[i] < at' + c.p
   ·clear hs hno2 hbad
    repeat(first|apply Ya|apply Yb|apply Yc|((first|apply Yd|apply Ye|apply Yf|apply Yg|apply Yh);simp -implicitDefEqProofs(maxSteps:=9^7)(disch:=first|exact Yo rfl|omega|(simp only[go_sem]<;>omega)|fail)only[go_sem,h,Int.ofNat_lt,List.getElem?_map,List.getElem?_eq_getElem h,Option.map_some,q1,q2]<;>try with_reducible rfl)|apply Yi|apply Yj|apply Yk|apply Yl|apply Ym|apply Yn)
    apply Ys
    ·simp -implicitDefEqProofs(maxSteps:=9^7)(disch:=first|exact Yo rfl|omega|(simp only[go_sem]<;>omega)|fail)only[go_sem,norm_eq,Ok.some]; with_reducible rfl
    exact ⟨h,bad[i],by simp,.inr ⟨List.getElem_mem h,q1,q2⟩⟩
   ·clear hs hno2 hbad
    repeat(first|apply Ya|apply Yb|apply Yc|((first|apply Yd|apply Ye|apply Yf|apply Yg|apply Yh);simp -implicitDefEqProofs(maxSteps:=9^7)(disch:=first|exact Yo rfl|omega|(simp only[go_sem]<;>omega)|fail)only[go_sem,h,Int.ofNat_lt,List.getElem?_map,List.getElem?_eq_getElem h,Option.map_some,q1,q2]<;>try with_reducible rfl)|apply Yi|apply Yj|apply Yk|apply Yl|apply Ym|apply Yn)
    apply Ys
    ·simp -implicitDefEqProofs(maxSteps:=9^7)(disch:=first|exact Yo rfl|omega|(simp only[go_sem]<;>omega)|fail)only[go_sem,norm_eq,Ok.some]; with_reducible rfl
    refine ⟨h,la,by simp,?_⟩
    rcases hla with ⟨h1,h2⟩ | h1
    ·refine .inl ⟨h1,fun j hj hji => ?_⟩
     by_cases e : j = i
     ·subst e; omega
     ·exact h2 j hj (by omega)
    ·exact .inr h1
  ·clear hs hno2 hbad
   repeat(first|apply Ya|apply Yb|apply Yc|((first|apply Yd|apply Ye|apply Yf|apply Yg|apply Yh);simp -implicitDefEqProofs(maxSteps:=9^7)(disch:=first|exact Yo rfl|omega|(simp only[go_sem]<;>omega)|fail)only[go_sem,h,Int.ofNat_lt,List.getElem?_map,List.getElem?_eq_getElem h,Option.map_some,q1]<;>try with_reducible rfl)|apply Yi|apply Yj|apply Yk|apply Yl|apply Ym|apply Yn)
   apply Ys
   ·simp -implicitDefEqProofs(maxSteps:=9^7)(disch:=first|exact Yo rfl|omega|(simp only[go_sem]<;>omega)|fail)only[go_sem,norm_eq,Ok.some]; with_reducible rfl
   refine ⟨h,la,by simp,?_⟩
   rcases hla with ⟨h1,h2⟩ | h1
   ·refine .inl ⟨h1,fun j hj hji => ?_⟩
    by_cases e : j = i
    ·subst e; omega
    ·exact h2 j hj (by omega)
   ·exact .inr h1
 ·obtain rfl : i = bad.length := by omega
  rcases hla with ⟨rfl,h2⟩ | ⟨h1,h2,h3⟩
  ·have hok : OkAt r bad c at' := ⟨n1,fun b hb q => by
    obtain ⟨j,hj,rfl⟩ := List.getElem_of_mem hb;exact h2 j hj hj (by omega)⟩
   have e : s = at' := hs.uniq ⟨by omega,hok,hno2⟩
   rw [e];clear hs hno2 hbad;repeat(first|apply Ya|apply Yb|apply Yc|((first|apply Yd|apply Ye|apply Yf|apply Yg|apply Yh);simp -implicitDefEqProofs(maxSteps:=9^7)(disch:=first|exact Yo rfl|omega|(simp only[go_sem]<;>omega)|fail)only[go_sem,Int.lt_irrefl]<;>try with_reducible rfl)|apply Yi|apply Yj|apply Yk|apply Yl|apply Ym|apply Yn)
  ·have hb := hbad la h1
   have hno3 : ∀ y,f ≤ y → y < la + 1 → ¬ OkAt r bad c y := by
    intro y k1 k2 k3;by_cases q : y < at'
    ·exact hno2 y k1 q k3
    ·exact k3.2 la h1 (by omega)
   clear hs hno2 hbad;repeat(first|apply Ya|apply Yb|apply Yc|((first|apply Yd|apply Ye|apply Yf|apply Yg|apply Yh);simp -implicitDefEqProofs(maxSteps:=9^7)(disch:=first|exact Yo rfl|omega|(simp only[go_sem]<;>omega)|fail)only[go_sem,Int.lt_irrefl,show ¬ la < 0 by omega]<;>try with_reducible rfl)|apply Yi|apply Yj|apply Yk|apply Yl|apply Ym|apply Yn)
   apply Ys
   ·simp -implicitDefEqProofs(maxSteps:=9^7)(disch:=first|exact Yo rfl|omega|(simp only[go_sem]<;>omega)|fail)only[go_sem,norm_eq,Ok.some]; with_reducible rfl
   exact ⟨(100002 - (la + 1)).toNat,by omega,la + 1,by simp,rfl,by omega,by omega,hno3⟩
end Go.Abs.Seam
