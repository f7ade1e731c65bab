/-
 Several texts: LB1, LB2, LB3, LB4, LB5.
-/
import Derived.Test.YtlcikiobkmajbaaLN
import Derived.Test.YtlcikiobkmajbaaP1
import Derived.Test.YtlcikiobkmajbaaFns
import Derived.Test.YtlcikiobkmajbaaEvI
import Derived.Test.YtlcikiobkmajbaaWpE
import Derived.Test.YtlcikiobkmajbaaBits
set_option linter.all false
namespace Go.Abs
set_option maxRecDepth 10000
set_option maxHeartbeats 4000000
open Go.Abs.Lo (OrdA MillA FixA beg chg never)
def ordV (x : OrdA) : AV:=.agg [iv x.w,iv x.c,iv x.v,iv x.e,iv x.t]
def widV (m : MillA) : List AV:=m.ws.map fun w=>iv w
def ordsV (m : MillA) : List AV:=m.os.map ordV
def millV (m : MillA) : AV:=.agg [.list 1 (widV m),iv m.ch,.list 5 (ordsV m)]
theorem lwithin1_ok (lo hi n : Int) : lim F 114 [iv n,.iptr (.agg [iv lo]) 0,.iptr (.agg [iv hi]) 0] = some (.bool (decide (n < lo ∨ hi < n)),[]):=by
 by_cases h1 : n < lo <;> by_cases h2 : hi < n
 all_goals
  refine Yr (fn:=a114) (k:=3) (res:=[.tmp 4]) rfl rfl rfl (by simp -implicitDefEqProofs(maxSteps:=9^7)(disch:=first|exact Yo rfl|omega|(simp only[go_sem]<;>omega)|fail)only[go_sem]) ?_
  try delta mvA
  try delta opA
  try delta tA
  simp -implicitDefEqProofs(maxSteps:=9^7)(disch:=first|exact Yo rfl|omega|(simp only[go_sem]<;>omega)|fail)only[go_sem]
  repeat(first|apply Ya|apply Yb|apply Yc|((first|apply Yd|apply Ye|apply Yf|apply Yg|apply Yh);simp -implicitDefEqProofs(maxSteps:=9^7)(disch:=first|exact Yo rfl|omega|(simp only[go_sem]<;>omega)|fail)only[go_sem,h1,h2]<;>try with_reducible rfl)|apply Yi|apply Yj|apply Yk|apply Yl|apply Ym|apply Yn)
theorem lwithin_ok (lo hi : Int) (l : List Int) (hl : l.length < 1000000000) : lim F 77 [iv lo,iv hi,.list 1 (l.map fun n=>iv n)] = some (.bool (l.all fun n=>decide (lo≤n∧n≤hi)),[]):=by
 have h:=contains_ints l (fun n=>decide (n < lo ∨ hi < n)) 114 (.agg [iv lo]) (.agg [iv hi]) hl (fun n _ => lwithin1_ok lo hi n)
 refine Yr (fn:=a77) (k:=3) (res:=[.tmp 6]) rfl rfl rfl (by simp -implicitDefEqProofs(maxSteps:=9^7)(disch:=first|exact Yo rfl|omega|(simp only[go_sem]<;>omega)|fail)only[go_sem]) ?_
 try delta mvA
 try delta opA
 try delta tA
 simp -implicitDefEqProofs(maxSteps:=9^7)(disch:=first|exact Yo rfl|omega|(simp only[go_sem]<;>omega)|fail)only[go_sem]
 repeat(first|apply Ya|apply Yb|apply Yc|((first|apply Yd|apply Ye|apply Yf|apply Yg|apply Yh);simp -implicitDefEqProofs(maxSteps:=9^7)(disch:=first|exact Yo rfl|omega|(simp only[go_sem]<;>omega)|fail)only[go_sem,h]<;>try with_reducible rfl)|apply Yi|apply Yj|apply Yk|apply Yl|apply Ym|apply Yn)
 simp only [Option.some.injEq,Prod.mk.injEq,AV.bool.injEq,and_true];rw [List.any_eq_not_all_not,Bool.not_not]
 congr 1
 funext n;by_cases h1 : n < lo <;> by_cases h2 : hi < n <;> simp [h1,h2] <;> omega
theorem lwithin_yes (lo hi : Int) (l : List Int) (hl : l.length < 1000000000) (h : ∀ n ∈ l,lo≤n∧n≤hi) : lim F 77 [iv lo,iv hi,.list 1 (l.map fun n=>iv n)] = some (.bool true,[]):=by
 rw [lwithin_ok lo hi l hl];have : (l.all fun n=>decide (lo≤n∧n≤hi)) = true:=by
  rw [List.all_eq_true];exact fun n hn => decide_eq_true (h n hn)
 rw [this]
theorem areDays_yes (a b : Int) (ha : 0≤a∧a≤300) (hb : 0≤b∧b≤300) : lim F 113 [.list 1 [iv a,iv b]] = some (.bool true,[]):=by
 have h:=lwithin_yes 0 300 [a,b] (by simp) (by
  intro n hn;simp only [List.mem_cons,List.not_mem_nil,or_false] at hn;rcases hn with rfl | rfl
  ·exact ha
  ·exact hb)
 simp only [List.map_cons,List.map_nil] at h;refine Yr (fn:=a113) (k:=1) (res:=[.tmp 2]) rfl rfl rfl (by simp -implicitDefEqProofs(maxSteps:=9^7)(disch:=first|exact Yo rfl|omega|(simp only[go_sem]<;>omega)|fail)only[go_sem]) ?_
 try delta mvA
 try delta opA
 try delta tA
 simp -implicitDefEqProofs(maxSteps:=9^7)(disch:=first|exact Yo rfl|omega|(simp only[go_sem]<;>omega)|fail)only[go_sem]
 repeat(first|apply Ya|apply Yb|apply Yc|((first|apply Yd|apply Ye|apply Yf|apply Yg|apply Yh);simp -implicitDefEqProofs(maxSteps:=9^7)(disch:=first|exact Yo rfl|omega|(simp only[go_sem]<;>omega)|fail)only[go_sem,h]<;>try with_reducible rfl)|apply Yi|apply Yj|apply Yk|apply Yl|apply Ym|apply Yn)
theorem isOrder_yes (x : OrdA) (h : x.Ok) : lim F 76 [ordV x] = some (.bool true,[]):=by
 have one : ∀ lo hi n : Int,lo≤n∧n≤hi → lim F 77 [iv lo,iv hi,.list 1 [iv n]] = some (.bool true,[]):=fun lo hi n hn => by
  have:=lwithin_yes lo hi [n] (by simp) (by intro k hk; rw [List.mem_singleton.1 hk]; exact hn)
  simpa using this
 have h1:=one 1 100 x.w h.w1;have h2:=one 0 100 x.c h.c1;have h3:=one 1 100 x.v h.v1;have h4:=areDays_yes x.e x.t h.e1 h.t1;unfold ordV;refine Yr (fn:=a76) (k:=1) (res:=[.tmp 2]) rfl rfl rfl (by simp -implicitDefEqProofs(maxSteps:=9^7)(disch:=first|exact Yo rfl|omega|(simp only[go_sem]<;>omega)|fail)only[go_sem]) ?_
 try delta mvA
 try delta opA
 try delta tA
 simp -implicitDefEqProofs(maxSteps:=9^7)(disch:=first|exact Yo rfl|omega|(simp only[go_sem]<;>omega)|fail)only[go_sem]
 repeat(first|apply Ya|apply Yb|apply Yc|((first|apply Yd|apply Ye|apply Yf|apply Yg|apply Yh);simp -implicitDefEqProofs(maxSteps:=9^7)(disch:=first|exact Yo rfl|omega|(simp only[go_sem]<;>omega)|fail)only[go_sem,h1,h2,h3,h4]<;>try with_reducible rfl)|apply Yi|apply Yj|apply Yk|apply Yl|apply Ym|apply Yn)
theorem notOrder (x : OrdA) (h : x.Ok) : lim F 75 [ordV x] = some (.bool false,[]):=by
 have h1:=isOrder_yes x h;unfold ordV at *;refine Yr (fn:=a75) (k:=1) (res:=[.tmp 2]) rfl rfl rfl (by simp -implicitDefEqProofs(maxSteps:=9^7)(disch:=first|exact Yo rfl|omega|(simp only[go_sem]<;>omega)|fail)only[go_sem]) ?_
 try delta mvA
 try delta opA
 try delta tA
 simp -implicitDefEqProofs(maxSteps:=9^7)(disch:=first|exact Yo rfl|omega|(simp only[go_sem]<;>omega)|fail)only[go_sem]
 repeat(first|apply Ya|apply Yb|apply Yc|((first|apply Yd|apply Ye|apply Yf|apply Yg|apply Yh);simp -implicitDefEqProofs(maxSteps:=9^7)(disch:=first|exact Yo rfl|omega|(simp only[go_sem]<;>omega)|fail)only[go_sem,h1]<;>try with_reducible rfl)|apply Yi|apply Yj|apply Yk|apply Yl|apply Ym|apply Yn)
theorem ord_len (m : MillA) : (ordsV m).length = m.os.length:=by simp [ordsV]
theorem ord_get {m : MillA} {i : Nat} (h : i < m.os.length) : (ordsV m)[i]? = some (ordV (m.o i)):=by
 unfold ordsV MillA.o;rw [List.getElem?_map,List.getElem?_eq_getElem h,List.getD_eq_getElem?_getD,List.getElem?_eq_getElem h]; rfl
theorem wid_len (m : MillA) : (widV m).length = m.ws.length:=by simp [widV]
theorem wid_get {m : MillA} {i : Nat} (h : i < m.ws.length) : (widV m)[i]? = some (iv (m.wd i)):=by
 unfold widV MillA.wd;rw [List.getElem?_map,List.getElem?_eq_getElem h,List.getD_eq_getElem?_getD,List.getElem?_eq_getElem h]; rfl
theorem noOrder_ok (m : MillA) (hm : m.Ok) : lim F 115 [.list 5 (ordsV m),.func 75 []] = some (iv (-1),[]):=by
 have hg:=fun i (hi : i < m.os.length) => ord_get hi
 have hf:=fun i (hi : i < m.os.length) => notOrder (m.o i) (hm.o hi)
 have hl:=ord_len m;have n6:=hm.n6;unfold ordV at hg hf;generalize ordsV m = es at *;generalize m.os.length = n at *;refine Yr (fn:=a115) (k:=2) (res:=[.tmp 4]) rfl rfl rfl (by simp -implicitDefEqProofs(maxSteps:=9^7)(disch:=first|exact Yo rfl|omega|(simp only[go_sem]<;>omega)|fail)only[go_sem]) ?_
 try delta mvA
 try delta opA
 try delta tA
 simp -implicitDefEqProofs(maxSteps:=9^7)(disch:=first|exact Yo rfl|omega|(simp only[go_sem]<;>omega)|fail)only[go_sem]
 repeat(first|apply Ya|apply Yb|apply Yc|((first|apply Yd|apply Ye|apply Yf|apply Yg|apply Yh);simp -implicitDefEqProofs(maxSteps:=9^7)(disch:=first|exact Yo rfl|omega|(simp only[go_sem]<;>omega)|fail)only[go_sem,hl]<;>try with_reducible rfl)|apply Yi|apply Yj|apply Yk|apply Yl|apply Ym|apply Yn)
 apply Yt n (fun i=>⟨[(0,.list 5 es),(1,.func 75 []),(7,iv (n : Int)),(8,iv (i : Int))],[],[],10000000⟩) (fun _=>True)
 ·simp -implicitDefEqProofs(maxSteps:=9^7)(disch:=first|exact Yo rfl|omega|(simp only[go_sem]<;>omega)|fail)only[go_sem,norm_eq,Ok.some]
  rfl
 ·trivial
 intro i hi _;by_cases h' : i < n
 ·have g1:=hg i h'
  have f1:=hf i h';repeat(first|apply Ya|apply Yb|apply Yc|((first|apply Yd|apply Ye|apply Yf|apply Yg|apply Yh);simp -implicitDefEqProofs(maxSteps:=9^7)(disch:=first|exact Yo rfl|omega|(simp only[go_sem]<;>omega)|fail)only[go_sem,h',Int.ofNat_lt,hl,g1,f1,Int.toNat_natCast]<;>try with_reducible rfl)|apply Yi|apply Yj|apply Yk|apply Yl|apply Ym|apply Yn)
  apply Ys
  ·simp -implicitDefEqProofs(maxSteps:=9^7)(disch:=first|exact Yo rfl|omega|(simp only[go_sem]<;>omega)|fail)only[go_sem,norm_eq,Ok.some]; with_reducible rfl
  exact ⟨h',by simp,trivial⟩
 ·obtain rfl : i = n:=by omega
  repeat(first|apply Ya|apply Yb|apply Yc|((first|apply Yd|apply Ye|apply Yf|apply Yg|apply Yh);simp -implicitDefEqProofs(maxSteps:=9^7)(disch:=first|exact Yo rfl|omega|(simp only[go_sem]<;>omega)|fail)only[go_sem,h',Int.ofNat_lt]<;>try with_reducible rfl)|apply Yi|apply Yj|apply Yk|apply Yl|apply Ym|apply Yn)
theorem loomOpen_ok (m : MillA) (hm : m.Ok) : lim F 36 [.agg [.list 1 (widV m),iv m.ch],.list 5 (ordsV m)] = some (.tuple [millV m,iv 0],[]):=by
 have hi:=noOrder_ok m hm;have hc : lim F 78 [.list 5 (ordsV m),.func 75 []] = some (.bool false,[]):=by
  generalize ordsV m = es at *;refine Yr (fn:=a78) (k:=2) (res:=[.tmp 4]) rfl rfl rfl (by simp -implicitDefEqProofs(maxSteps:=9^7)(disch:=first|exact Yo rfl|omega|(simp only[go_sem]<;>omega)|fail)only[go_sem]) ?_
  try delta mvA
  try delta opA
  try delta tA
  simp -implicitDefEqProofs(maxSteps:=9^7)(disch:=first|exact Yo rfl|omega|(simp only[go_sem]<;>omega)|fail)only[go_sem]
  repeat(first|apply Ya|apply Yb|apply Yc|((first|apply Yd|apply Ye|apply Yf|apply Yg|apply Yh);simp -implicitDefEqProofs(maxSteps:=9^7)(disch:=first|exact Yo rfl|omega|(simp only[go_sem]<;>omega)|fail)only[go_sem,hi]<;>try with_reducible rfl)|apply Yi|apply Yj|apply Yk|apply Yl|apply Ym|apply Yn)
 have hl:=ord_len m;have hw:=wid_len m;have n6:=hm.n6;have l1:=hm.l1;have h1:=lwithin_yes 1 100 m.ws (by omega) hm.w1
 have h2:=lwithin_yes 0 20 [m.ch] (by simp) (by intro k hk; rw [List.mem_singleton.1 hk]; exact hm.ch1)
 simp only [List.map_cons,List.map_nil] at h2;unfold millV;change lim F _ [_,_,.list 1 (widV m)] = _ at h1;generalize ordsV m = es at *;generalize widV m = ws at *;refine Yr (fn:=a36) (k:=2) (res:=[.cell 4 3 true,.tmp 5]) rfl rfl rfl (by simp -implicitDefEqProofs(maxSteps:=9^7)(disch:=first|exact Yo rfl|omega|(simp only[go_sem]<;>omega)|fail)only[go_sem]) ?_
 try delta mvA
 try delta opA
 try delta tA
 simp -implicitDefEqProofs(maxSteps:=9^7)(disch:=first|exact Yo rfl|omega|(simp only[go_sem]<;>omega)|fail)only[go_sem]
 repeat(first|apply Ya|apply Yb|apply Yc|((first|apply Yd|apply Ye|apply Yf|apply Yg|apply Yh);simp -implicitDefEqProofs(maxSteps:=9^7)(disch:=first|exact Yo rfl|omega|(simp only[go_sem]<;>omega)|fail)only[go_sem,hl,hw,h1,h2,hc,show ¬ (3 : Int) < (m.ws.length : Int) by omega,show ¬ (7 : Int) < (m.os.length : Int) by omega,show ¬ (m.ws.length : Int) = 0 by omega]<;>try with_reducible rfl)|apply Yi|apply Yj|apply Yk|apply Yl|apply Ym|apply Yn)
end Go.Abs
set_option linter.all false
namespace Go.Abs
set_option maxRecDepth 10000
set_option maxHeartbeats 4000000
open Go.Abs.Lo (OrdA MillA FixA beg chg never)
def lrunV (o : Nat) (r : Nat × Int) : AV:=.agg [iv (o : Int),iv (r.1 : Int),iv r.2]
inductive FixV : AV → FixA → Prop
 | no : FixV (.const (.map none)) (fun _=>none)
 | some (ks : List Int) (vs : List AV) (f : FixA) (h : ∀ o : Nat,kvGet (o : Int) (ks.zip vs) = (f o).map (lrunV o)) : FixV (.mapI .i64 ks vs) f
theorem begins_ok (m : MillA) (hm : m.Ok) {fv : AV} {f : FixA} (hf : FixV fv f) (o loom : Nat) (frm : Int) (ho : o < m.os.length) (hl : loom < m.ws.length) (h0 : 0≤frm∧frm≤2000000) (hr : ∀ r,f o = some r → 0≤r.2∧r.2≤1000) : lim F 145 [millV m,iv (o : Int),iv (loom : Int),iv frm,fv] = some (iv (beg m f o loom frm),[]):=by
 have g1:=ord_get ho;have g2:=wid_get hl;have l1:=ord_len m;have l2:=wid_len m;have hov:=hm.o ho;have e1:=hov.e1;have v1:=hov.v1;have t1:=hov.t1;have w2:=hm.wd hl;unfold beg never;unfold millV;unfold ordV at g1;generalize ordsV m = es at *;generalize widV m = ws at *;generalize m.o o = x at *;generalize m.wd loom = wd at *;have hpu : ∀ v : AV,Eff.pure v = ⟨v,[],[]⟩:=fun v=>id rfl
 cases hf with
 | no =>
  dsimp only;by_cases c1 : wd < x.w
  ·rw [if_pos (.inl c1)]
   refine Yr (fn:=a145) (k:=5) (res:=[.tmp 10]) rfl rfl rfl (by simp -implicitDefEqProofs(maxSteps:=9^7)(disch:=first|exact Yo rfl|omega|(simp only[go_sem]<;>omega)|fail)only[go_sem]) ?_
   try delta mvA
   try delta opA
   try delta tA
   simp -implicitDefEqProofs(maxSteps:=9^7)(disch:=first|exact Yo rfl|omega|(simp only[go_sem]<;>omega)|fail)only[go_sem]
   repeat(first|apply Ya|apply Yb|apply Yc|((first|apply Yd|apply Ye|apply Yf|apply Yg|apply Yh);simp -implicitDefEqProofs(maxSteps:=9^7)(disch:=first|exact Yo rfl|omega|(simp only[go_sem]<;>omega)|fail)only[go_sem,g1,g2,l1,l2,ho,hl,Int.ofNat_lt,Int.toNat_natCast,c1,hpu]<;>try with_reducible rfl)|apply Yi|apply Yj|apply Yk|apply Yl|apply Ym|apply Yn)
  ·by_cases c2 : x.t < max x.e frm + x.v
   ·rw [if_pos (.inr c2)]
    refine Yr (fn:=a145) (k:=5) (res:=[.tmp 10]) rfl rfl rfl (by simp -implicitDefEqProofs(maxSteps:=9^7)(disch:=first|exact Yo rfl|omega|(simp only[go_sem]<;>omega)|fail)only[go_sem]) ?_
    try delta mvA
    try delta opA
    try delta tA
    simp -implicitDefEqProofs(maxSteps:=9^7)(disch:=first|exact Yo rfl|omega|(simp only[go_sem]<;>omega)|fail)only[go_sem]
    repeat(first|apply Ya|apply Yb|apply Yc|((first|apply Yd|apply Ye|apply Yf|apply Yg|apply Yh);simp -implicitDefEqProofs(maxSteps:=9^7)(disch:=first|exact Yo rfl|omega|(simp only[go_sem]<;>omega)|fail)only[go_sem,g1,g2,l1,l2,ho,hl,Int.ofNat_lt,Int.toNat_natCast,c1,c2,hpu]<;>try with_reducible rfl)|apply Yi|apply Yj|apply Yk|apply Yl|apply Ym|apply Yn)
   ·rw [if_neg (by omega)]
    refine Yr (fn:=a145) (k:=5) (res:=[.tmp 10]) rfl rfl rfl (by simp -implicitDefEqProofs(maxSteps:=9^7)(disch:=first|exact Yo rfl|omega|(simp only[go_sem]<;>omega)|fail)only[go_sem]) ?_
    try delta mvA
    try delta opA
    try delta tA
    simp -implicitDefEqProofs(maxSteps:=9^7)(disch:=first|exact Yo rfl|omega|(simp only[go_sem]<;>omega)|fail)only[go_sem]
    repeat(first|apply Ya|apply Yb|apply Yc|((first|apply Yd|apply Ye|apply Yf|apply Yg|apply Yh);simp -implicitDefEqProofs(maxSteps:=9^7)(disch:=first|exact Yo rfl|omega|(simp only[go_sem]<;>omega)|fail)only[go_sem,g1,g2,l1,l2,ho,hl,Int.ofNat_lt,Int.toNat_natCast,c1,c2,hpu]<;>try with_reducible rfl)|apply Yi|apply Yj|apply Yk|apply Yl|apply Ym|apply Yn)
 | some ks vs _ h =>
  have hk:=h o;cases hfo : f o with
  | none =>
   rw [hfo] at hk;simp only [Option.map_none] at hk;dsimp only;by_cases c1 : wd < x.w
   ·rw [if_pos (.inl c1)]
    refine Yr (fn:=a145) (k:=5) (res:=[.tmp 10]) rfl rfl rfl (by simp -implicitDefEqProofs(maxSteps:=9^7)(disch:=first|exact Yo rfl|omega|(simp only[go_sem]<;>omega)|fail)only[go_sem]) ?_
    try delta mvA
    try delta opA
    try delta tA
    simp -implicitDefEqProofs(maxSteps:=9^7)(disch:=first|exact Yo rfl|omega|(simp only[go_sem]<;>omega)|fail)only[go_sem]
    repeat(first|apply Ya|apply Yb|apply Yc|((first|apply Yd|apply Ye|apply Yf|apply Yg|apply Yh);simp -implicitDefEqProofs(maxSteps:=9^7)(disch:=first|exact Yo rfl|omega|(simp only[go_sem]<;>omega)|fail)only[go_sem,g1,g2,l1,l2,ho,hl,Int.ofNat_lt,Int.toNat_natCast,c1,hpu,hk]<;>try with_reducible rfl)|apply Yi|apply Yj|apply Yk|apply Yl|apply Ym|apply Yn)
   ·by_cases c2 : x.t < max x.e frm + x.v
    ·rw [if_pos (.inr c2)]
     refine Yr (fn:=a145) (k:=5) (res:=[.tmp 10]) rfl rfl rfl (by simp -implicitDefEqProofs(maxSteps:=9^7)(disch:=first|exact Yo rfl|omega|(simp only[go_sem]<;>omega)|fail)only[go_sem]) ?_
     try delta mvA
     try delta opA
     try delta tA
     simp -implicitDefEqProofs(maxSteps:=9^7)(disch:=first|exact Yo rfl|omega|(simp only[go_sem]<;>omega)|fail)only[go_sem]
     repeat(first|apply Ya|apply Yb|apply Yc|((first|apply Yd|apply Ye|apply Yf|apply Yg|apply Yh);simp -implicitDefEqProofs(maxSteps:=9^7)(disch:=first|exact Yo rfl|omega|(simp only[go_sem]<;>omega)|fail)only[go_sem,g1,g2,l1,l2,ho,hl,Int.ofNat_lt,Int.toNat_natCast,c1,c2,hpu,hk]<;>try with_reducible rfl)|apply Yi|apply Yj|apply Yk|apply Yl|apply Ym|apply Yn)
    ·rw [if_neg (by omega)]
     refine Yr (fn:=a145) (k:=5) (res:=[.tmp 10]) rfl rfl rfl (by simp -implicitDefEqProofs(maxSteps:=9^7)(disch:=first|exact Yo rfl|omega|(simp only[go_sem]<;>omega)|fail)only[go_sem]) ?_
     try delta mvA
     try delta opA
     try delta tA
     simp -implicitDefEqProofs(maxSteps:=9^7)(disch:=first|exact Yo rfl|omega|(simp only[go_sem]<;>omega)|fail)only[go_sem]
     repeat(first|apply Ya|apply Yb|apply Yc|((first|apply Yd|apply Ye|apply Yf|apply Yg|apply Yh);simp -implicitDefEqProofs(maxSteps:=9^7)(disch:=first|exact Yo rfl|omega|(simp only[go_sem]<;>omega)|fail)only[go_sem,g1,g2,l1,l2,ho,hl,Int.ofNat_lt,Int.toNat_natCast,c1,c2,hpu,hk]<;>try with_reducible rfl)|apply Yi|apply Yj|apply Yk|apply Yl|apply Ym|apply Yn)
  | some r =>
   obtain ⟨rl,rf⟩:=r;have hr1:=hr _ hfo;rw [hfo] at hk;simp only [Option.map_some,lrunV] at hk;dsimp only at *;by_cases d1 : rl = loom
   ·subst d1
    by_cases d2 : rf < max x.e frm
    ·rw [if_pos (.inr d2)]
     refine Yr (fn:=a145) (k:=5) (res:=[.tmp 10]) rfl rfl rfl (by simp -implicitDefEqProofs(maxSteps:=9^7)(disch:=first|exact Yo rfl|omega|(simp only[go_sem]<;>omega)|fail)only[go_sem]) ?_
     try delta mvA
     try delta opA
     try delta tA
     simp -implicitDefEqProofs(maxSteps:=9^7)(disch:=first|exact Yo rfl|omega|(simp only[go_sem]<;>omega)|fail)only[go_sem]
     repeat(first|apply Ya|apply Yb|apply Yc|((first|apply Yd|apply Ye|apply Yf|apply Yg|apply Yh);simp -implicitDefEqProofs(maxSteps:=9^7)(disch:=first|exact Yo rfl|omega|(simp only[go_sem]<;>omega)|fail)only[go_sem,g1,g2,l1,l2,ho,hl,Int.ofNat_lt,Int.toNat_natCast,d2,hpu,hk]<;>try with_reducible rfl)|apply Yi|apply Yj|apply Yk|apply Yl|apply Ym|apply Yn)
    ·rw [if_neg (by omega)]
     by_cases c1 : wd < x.w
     ·rw [if_pos (.inl c1)]
      refine Yr (fn:=a145) (k:=5) (res:=[.tmp 10]) rfl rfl rfl (by simp -implicitDefEqProofs(maxSteps:=9^7)(disch:=first|exact Yo rfl|omega|(simp only[go_sem]<;>omega)|fail)only[go_sem]) ?_
      try delta mvA
      try delta opA
      try delta tA
      simp -implicitDefEqProofs(maxSteps:=9^7)(disch:=first|exact Yo rfl|omega|(simp only[go_sem]<;>omega)|fail)only[go_sem]
      repeat(first|apply Ya|apply Yb|apply Yc|((first|apply Yd|apply Ye|apply Yf|apply Yg|apply Yh);simp -implicitDefEqProofs(maxSteps:=9^7)(disch:=first|exact Yo rfl|omega|(simp only[go_sem]<;>omega)|fail)only[go_sem,g1,g2,l1,l2,ho,hl,Int.ofNat_lt,Int.toNat_natCast,c1,d2,hpu,hk]<;>try with_reducible rfl)|apply Yi|apply Yj|apply Yk|apply Yl|apply Ym|apply Yn)
     ·by_cases c2 : x.t < rf + x.v
      ·rw [if_pos (.inr c2)]
       refine Yr (fn:=a145) (k:=5) (res:=[.tmp 10]) rfl rfl rfl (by simp -implicitDefEqProofs(maxSteps:=9^7)(disch:=first|exact Yo rfl|omega|(simp only[go_sem]<;>omega)|fail)only[go_sem]) ?_
       try delta mvA
       try delta opA
       try delta tA
       simp -implicitDefEqProofs(maxSteps:=9^7)(disch:=first|exact Yo rfl|omega|(simp only[go_sem]<;>omega)|fail)only[go_sem]
       repeat(first|apply Ya|apply Yb|apply Yc|((first|apply Yd|apply Ye|apply Yf|apply Yg|apply Yh);simp -implicitDefEqProofs(maxSteps:=9^7)(disch:=first|exact Yo rfl|omega|(simp only[go_sem]<;>omega)|fail)only[go_sem,g1,g2,l1,l2,ho,hl,Int.ofNat_lt,Int.toNat_natCast,c1,c2,d2,hpu,hk]<;>try with_reducible rfl)|apply Yi|apply Yj|apply Yk|apply Yl|apply Ym|apply Yn)
      ·rw [if_neg (by omega)]
       refine Yr (fn:=a145) (k:=5) (res:=[.tmp 10]) rfl rfl rfl (by simp -implicitDefEqProofs(maxSteps:=9^7)(disch:=first|exact Yo rfl|omega|(simp only[go_sem]<;>omega)|fail)only[go_sem]) ?_
       try delta mvA
       try delta opA
       try delta tA
       simp -implicitDefEqProofs(maxSteps:=9^7)(disch:=first|exact Yo rfl|omega|(simp only[go_sem]<;>omega)|fail)only[go_sem]
       repeat(first|apply Ya|apply Yb|apply Yc|((first|apply Yd|apply Ye|apply Yf|apply Yg|apply Yh);simp -implicitDefEqProofs(maxSteps:=9^7)(disch:=first|exact Yo rfl|omega|(simp only[go_sem]<;>omega)|fail)only[go_sem,g1,g2,l1,l2,ho,hl,Int.ofNat_lt,Int.toNat_natCast,c1,c2,d2,hpu,hk]<;>try with_reducible rfl)|apply Yi|apply Yj|apply Yk|apply Yl|apply Ym|apply Yn)
   ·rw [if_pos (.inl d1)]
    have d1' : ¬ (rl : Int) = (loom : Int):=by omega
    refine Yr (fn:=a145) (k:=5) (res:=[.tmp 10]) rfl rfl rfl (by simp -implicitDefEqProofs(maxSteps:=9^7)(disch:=first|exact Yo rfl|omega|(simp only[go_sem]<;>omega)|fail)only[go_sem]) ?_
    try delta mvA
    try delta opA
    try delta tA
    simp -implicitDefEqProofs(maxSteps:=9^7)(disch:=first|exact Yo rfl|omega|(simp only[go_sem]<;>omega)|fail)only[go_sem]
    repeat(first|apply Ya|apply Yb|apply Yc|((first|apply Yd|apply Ye|apply Yf|apply Yg|apply Yh);simp -implicitDefEqProofs(maxSteps:=9^7)(disch:=first|exact Yo rfl|omega|(simp only[go_sem]<;>omega)|fail)only[go_sem,g1,g2,l1,l2,ho,hl,Int.ofNat_lt,Int.toNat_natCast,d1',hpu,hk]<;>try with_reducible rfl)|apply Yi|apply Yj|apply Yk|apply Yl|apply Ym|apply Yn)
end Go.Abs
set_option linter.all false
namespace Go.Abs
set_option maxRecDepth 10000
set_option maxHeartbeats 4000000
open Go.Abs.Lo (OrdA MillA FixA beg chg never Soon Entry)
def readyV (T : Nat → Nat → Int) : List AV:=(List.range 896).map fun p=>iv (T (p / 7) (p % 7))
theorem ready_len (T : Nat → Nat → Int) : (readyV T).length = 896:=by simp [readyV]
theorem ready_get {T : Nat → Nat → Int} {s k : Nat} (hs : s < 128) (hk : k < 7) : (readyV T)[s * 7 + k]? = some (iv (T s k)):=by
 unfold readyV;rw [List.getElem?_map,List.getElem?_range (by omega),Option.map_some,show (s * 7 + k) / 7 = s by omega,show (s * 7 + k) % 7 = k by omega]
def setT (T : Nat → Nat → Int) (s a : Nat) (v : Int) : Nat → Nat → Int:=fun i j => if i = s∧j = a then v else T i j
theorem ready_set {T : Nat → Nat → Int} {s k : Nat} (v : Int) (hs : s < 128) (hk : k < 7) : (readyV T).set (s * 7 + k) (iv v) = readyV (setT T s k v):=by
 apply List.ext_getElem?;intro p;by_cases hp : p < 896
 ·have e : readyV (setT T s k v) = (List.range 896).map fun p=>iv (setT T s k v (p / 7) (p % 7)):=rfl
  rw [List.getElem?_set,e,List.getElem?_map,List.getElem?_range hp,Option.map_some];by_cases c : s * 7 + k = p
  ·subst c
   rw [if_pos rfl,if_pos (by rw [ready_len]; omega),show (s * 7 + k) / 7 = s by omega,show (s * 7 + k) % 7 = k by omega]
   simp [setT]
  ·rw [if_neg c]
   unfold readyV setT;rw [List.getElem?_map,List.getElem?_range hp,Option.map_some,if_neg (by omega)]
 ·rw [List.getElem?_eq_none (by rw [List.length_set,ready_len]; omega),List.getElem?_eq_none (by rw [ready_len]; omega)]
structure SoonTo (m : MillA) (f : FixA) (loom : Nat) (T : Nat → Nat → Int) (b a n : Nat) (d : Int) : Prop where
 le : d≤never
 ge : 0≤d
 is : d = never ∨ ∃ k,k < n∧b.testBit k = true∧T b k < never∧d = beg m f a loom (T b k + chg m k a)
 all : ∀ k,k < n → b.testBit k = true → T b k < never → d≤beg m f a loom (T b k + chg m k a)
theorem SoonTo.skip {m : MillA} {f : FixA} {loom : Nat} {T : Nat → Nat → Int} {b a n : Nat} {d : Int} (h : SoonTo m f loom T b a n d) (hc : ¬ (b.testBit n = true∧T b n < never)) : SoonTo m f loom T b a (n + 1) d where
 le:=h.le
 ge:=h.ge
 is:=by
  rcases h.is with h1 | ⟨k,h1,h2⟩
  ·exact .inl h1
  ·exact .inr ⟨k,by omega,h2⟩
 all:=fun k hk h1 h2 => by
  by_cases e : k = n
  ·subst e; exact absurd ⟨h1,h2⟩ hc
  ·exact h.all k (by omega) h1 h2
theorem SoonTo.take {m : MillA} {f : FixA} {loom : Nat} {T : Nat → Nat → Int} {b a n : Nat} {d : Int} (h : SoonTo m f loom T b a n d) (h1 : b.testBit n = true) (h2 : T b n < never) (h0 : 0≤beg m f a loom (T b n + chg m n a)) :
  SoonTo m f loom T b a (n + 1) (min d (beg m f a loom (T b n + chg m n a))) where
 le:=by have:=h.le; omega
 ge:=by have:=h.ge; omega
 is:=by
  by_cases c : d≤beg m f a loom (T b n + chg m n a)
  ·rw [Int.min_eq_left c]
   rcases h.is with h1 | ⟨k,h1,h2⟩
   ·exact .inl h1
   ·exact .inr ⟨k,by omega,h2⟩
  ·rw [Int.min_eq_right (by omega)]
   exact .inr ⟨n,by omega,h1,h2,rfl⟩
 all:=fun k hk g1 g2 => by
  by_cases e : k = n
  ·subst e; omega
  ·have:=h.all k (by omega) g1 g2; omega
theorem soonest_ok (m : MillA) (hm : m.Ok) {fv : AV} {f : FixA} (hf : FixV fv f) (hr : ∀ o r,f o = some r → 0≤r.2∧r.2≤1000) (T : Nat → Nat → Int) (hT : ∀ s k,0≤T s k∧T s k≤never) (s a loom : Nat) (hs : s < 128) (ha : a < m.os.length) (hl : loom < m.ws.length) :
  ∃ q,lim F 116 [millV m,.iptr (.agg (readyV T)) 0,iv (s : Int),iv (a : Int),iv (loom : Int),fv] = some q∧∃ d,q = (iv d,[])∧Soon m f loom T (andN s (2 ^ a)) a d∧0≤d∧d≤never:=by
 have hB:=fun frm h0 => begins_ok m hm hf a loom frm ha hl h0 (hr a)
 have n6:=hm.n6;have hov:=hm.o ha;have b0:=fun frm=>Lo.beg_ge (loom:=loom) f frm hov.e1.1
 have b1:=fun frm=>Lo.beg_le (loom:=loom) f frm hov.v1.1 hov.t1.2
 have hch:=hm.ch1;have sh:=w_shl1 a (by omega)
 have an:=w_andN s (2 ^ a) (by omega)
 have hble:=andN_le (a:=s) (b:=2 ^ a) (show s < 9223372036854775808 by omega)
 have hp7 : 2 ^ a≤2 ^ 6:=Nat.pow_le_pow_right (by omega) (by omega)
 generalize hb : andN s (2 ^ a) = b at *;have hord:=fun k (hk : k < m.os.length) => ord_get hk
 have hok:=fun k (hk : k < m.os.length) => hm.o hk
 have l1:=ord_len m;have rl:=ready_len T;have rg : ∀ k,k < 7 → (readyV T)[b * 7 + k * 1]? = some (iv (T b k)):=fun k hk => by rw [Nat.mul_one]; exact ready_get (by omega) hk
 unfold millV at *;unfold ordV at hord;generalize ordsV m = es at *;generalize widV m = ws at *;generalize readyV T = RV at *;generalize hpa : 2 ^ a = pa at *;have hfz : fv = .const (.map none) ∨ ∃ ks vs,fv = .mapI .i64 ks vs:=by cases hf <;> simp
 by_cases c0 : b = 0
 ·have h1:=hB 0 (by omega)
  have z0:=b0 0;have z1:=b1 0;generalize hd : beg m f a loom 0 = d at *;rcases hfz with rfl | ⟨ks,vs,rfl⟩
  all_goals
   refine lim_ex (fn:=a116) (k:=6) (res:=[.tmp 12]) rfl rfl rfl (by simp -implicitDefEqProofs(maxSteps:=9^7)(disch:=first|exact Yo rfl|omega|(simp only[go_sem]<;>omega)|fail)only[go_sem]) ?_
   try delta mvA
   try delta opA
   try delta tA
   simp -implicitDefEqProofs(maxSteps:=9^7)(disch:=first|exact Yo rfl|omega|(simp only[go_sem]<;>omega)|fail)only[go_sem]
   repeat(first|apply Ya|apply Yb|apply Yc|((first|apply Yd|apply Ye|apply Yf|apply Yg|apply Yh);simp -implicitDefEqProofs(maxSteps:=9^7)(disch:=first|exact Yo rfl|omega|(simp only[go_sem]<;>omega)|fail)only[go_sem,sh,an,h1,c0,Int.toNat_natCast]<;>try with_reducible rfl)|apply Yi|apply Yj|apply Yk|apply Yl|apply Ym|apply Yn)
   refine finp_ret (r:=(iv d,[])) ?_ ⟨d,rfl,⟨fun _=>hd.symm,fun h=>absurd c0 h⟩,z0,z1⟩
   simp -implicitDefEqProofs(maxSteps:=9^7)(disch:=first|exact Yo rfl|omega|(simp only[go_sem]<;>omega)|fail)only[go_sem]
 ·have c0' : ¬ (b : Int) = 0:=by omega
  have hanI:=an;clear an hpa;rcases hfz with rfl | ⟨ks,vs,rfl⟩
  ·refine lim_ex (fn:=a116) (k:=6) (res:=[.tmp 12]) rfl rfl rfl (by simp -implicitDefEqProofs(maxSteps:=9^7)(disch:=first|exact Yo rfl|omega|(simp only[go_sem]<;>omega)|fail)only[go_sem]) ?_
   try delta mvA
   try delta opA
   try delta tA
   simp -implicitDefEqProofs(maxSteps:=9^7)(disch:=first|exact Yo rfl|omega|(simp only[go_sem]<;>omega)|fail)only[go_sem]
   repeat(first|apply Ya|apply Yb|apply Yc|((first|apply Yd|apply Ye|apply Yf|apply Yg|apply Yh);simp -implicitDefEqProofs(maxSteps:=9^7)(disch:=first|exact Yo rfl|omega|(simp only[go_sem]<;>omega)|fail)only[go_sem,sh,hanI,c0',l1,Int.toNat_natCast]<;>try with_reducible rfl)|apply Yi|apply Yj|apply Yk|apply Yl|apply Ym|apply Yn)
   apply Yu m.os.length (fun k fr => ∃ d,fr = ⟨[(1,.iptr (.agg RV) 0),(3,iv (a : Int)),(4,iv (loom : Int)),(5,.const (.map none)),(6,.ptr 384 0 0),(13,iv (b : Int)),(14,iv d),(30,iv (m.os.length : Int)),(31,iv (k : Int))],[(384,.box [.list 1 ws,iv m.ch,.list 5 es])],[],10000000⟩∧SoonTo m f loom T b a k d)
   ·simp -implicitDefEqProofs(maxSteps:=9^7)(disch:=first|exact Yo rfl|omega|(simp only[go_sem]<;>omega)|fail)only[go_sem,norm_eq,Ok.some]
    exact ⟨never,rfl,by omega,by unfold never; omega,.inl rfl,fun k hk => by omega⟩
   rintro k fr hk ⟨d,rfl,hd⟩;by_cases h' : k < m.os.length
   ·have g1:=rg k (by omega)
    have sr:=w_shr b k (by omega)
    have hlt : b >>> k≤b:=by rw [Nat.shiftRight_eq_div_pow]; exact Nat.div_le_self _ _
    have s2:=w_and1 (b >>> k) (by omega)
    have s3:=shr_and1 b k;generalize b >>> k &&& 1 = bb at *;generalize b >>> k = bk at *;have hTk:=hT b k;by_cases cb : b.testBit k = true
    ·rw [if_pos cb] at s3
     subst s3;by_cases ct : T b k < never
     ·have ct' : ¬ (1048576 : Int)≤T b k:=by unfold never at ct; omega
      have o1:=hord k h';have o2:=hord a ha;have q0:=b0 (T b k + chg m k a);have q1:=b1 (T b k + chg m k a);have hd2:=hd.take cb ct q0;have hdl:=hd.le;have hdg:=hd.ge;by_cases cc : (m.o k).c = (m.o a).c
      ·have ec : chg m k a = 0:=by unfold chg; rw [if_neg (by simp [cc])]
       rw [ec,Int.add_zero] at q0 q1 hd2;have h1:=hB (T b k) (by unfold never at hTk; omega)
       generalize beg m f a loom (T b k) = e at *;generalize T b k = tv at *;repeat(first|apply Ya|apply Yb|apply Yc|((first|apply Yd|apply Ye|apply Yf|apply Yg|apply Yh);simp -implicitDefEqProofs(maxSteps:=9^7)(disch:=first|exact Yo rfl|omega|(simp only[go_sem]<;>omega)|fail)only[go_sem,h',Int.ofNat_lt,sr,s2,g1,ct',rl,Int.toNat_natCast,show ¬ ((1 : Nat) : Int) = 0 by omega,show (b : Int) < 128 by omega,show (k : Int) < 7 by omega,l1,o1,o2,ha,cc,h1]<;>try with_reducible rfl)|apply Yi|apply Yj|apply Yk|apply Yl|apply Ym|apply Yn)
       apply Ys
       ·simp -implicitDefEqProofs(maxSteps:=9^7)(disch:=first|exact Yo rfl|omega|(simp only[go_sem]<;>omega)|fail)only[go_sem,norm_eq,Ok.some]; with_reducible rfl
       exact ⟨h',_,by simp,hd2⟩
      ·have ec : chg m k a = m.ch:=by unfold chg; rw [if_pos cc]
       rw [ec] at q0 q1 hd2;have h1:=hB (T b k + m.ch) (by unfold never at hTk; omega)
       generalize beg m f a loom (T b k + m.ch) = e at *;generalize T b k = tv at *;repeat(first|apply Ya|apply Yb|apply Yc|((first|apply Yd|apply Ye|apply Yf|apply Yg|apply Yh);simp -implicitDefEqProofs(maxSteps:=9^7)(disch:=first|exact Yo rfl|omega|(simp only[go_sem]<;>omega)|fail)only[go_sem,h',Int.ofNat_lt,sr,s2,g1,ct',rl,Int.toNat_natCast,show ¬ ((1 : Nat) : Int) = 0 by omega,show (b : Int) < 128 by omega,show (k : Int) < 7 by omega,l1,o1,o2,ha,cc,h1]<;>try with_reducible rfl)|apply Yi|apply Yj|apply Yk|apply Yl|apply Ym|apply Yn)
       apply Ys
       ·simp -implicitDefEqProofs(maxSteps:=9^7)(disch:=first|exact Yo rfl|omega|(simp only[go_sem]<;>omega)|fail)only[go_sem,norm_eq,Ok.some]; with_reducible rfl
       exact ⟨h',_,by simp,hd2⟩
     ·have ct' : (1048576 : Int)≤T b k:=by unfold never at ct; omega
      have hd2:=hd.skip (by simp [ct])
      repeat(first|apply Ya|apply Yb|apply Yc|((first|apply Yd|apply Ye|apply Yf|apply Yg|apply Yh);simp -implicitDefEqProofs(maxSteps:=9^7)(disch:=first|exact Yo rfl|omega|(simp only[go_sem]<;>omega)|fail)only[go_sem,h',Int.ofNat_lt,sr,s2,g1,ct',rl,Int.toNat_natCast,show ¬ ((1 : Nat) : Int) = 0 by omega,show (b : Int) < 128 by omega,show (k : Int) < 7 by omega]<;>try with_reducible rfl)|apply Yi|apply Yj|apply Yk|apply Yl|apply Ym|apply Yn)
      apply Ys
      ·simp -implicitDefEqProofs(maxSteps:=9^7)(disch:=first|exact Yo rfl|omega|(simp only[go_sem]<;>omega)|fail)only[go_sem,norm_eq,Ok.some]; with_reducible rfl
      exact ⟨h',d,by simp,hd2⟩
    ·rw [if_neg cb] at s3
     subst s3;have hd2:=hd.skip (by simp [cb])
     repeat(first|apply Ya|apply Yb|apply Yc|((first|apply Yd|apply Ye|apply Yf|apply Yg|apply Yh);simp -implicitDefEqProofs(maxSteps:=9^7)(disch:=first|exact Yo rfl|omega|(simp only[go_sem]<;>omega)|fail)only[go_sem,h',Int.ofNat_lt,sr,s2,Int.toNat_natCast,show ((0 : Nat) : Int) = 0 from rfl]<;>try with_reducible rfl)|apply Yi|apply Yj|apply Yk|apply Yl|apply Ym|apply Yn)
     apply Ys
     ·simp -implicitDefEqProofs(maxSteps:=9^7)(disch:=first|exact Yo rfl|omega|(simp only[go_sem]<;>omega)|fail)only[go_sem,norm_eq,Ok.some]; with_reducible rfl
     exact ⟨h',d,by simp,hd2⟩
   ·obtain rfl : k = m.os.length:=by omega
    repeat(first|apply Ya|apply Yb|apply Yc|((first|apply Yd|apply Ye|apply Yf|apply Yg|apply Yh);simp -implicitDefEqProofs(maxSteps:=9^7)(disch:=first|exact Yo rfl|omega|(simp only[go_sem]<;>omega)|fail)only[go_sem,h',Int.ofNat_lt]<;>try with_reducible rfl)|apply Yi|apply Yj|apply Yk|apply Yl|apply Ym|apply Yn)
    refine finp_ret (r:=(iv d,[])) ?_ ⟨d,rfl,⟨fun h=>absurd h c0,fun _=>⟨hd.is,hd.all⟩⟩,hd.ge,hd.le⟩
    simp -implicitDefEqProofs(maxSteps:=9^7)(disch:=first|exact Yo rfl|omega|(simp only[go_sem]<;>omega)|fail)only[go_sem]
  ·refine lim_ex (fn:=a116) (k:=6) (res:=[.tmp 12]) rfl rfl rfl (by simp -implicitDefEqProofs(maxSteps:=9^7)(disch:=first|exact Yo rfl|omega|(simp only[go_sem]<;>omega)|fail)only[go_sem]) ?_
   try delta mvA
   try delta opA
   try delta tA
   simp -implicitDefEqProofs(maxSteps:=9^7)(disch:=first|exact Yo rfl|omega|(simp only[go_sem]<;>omega)|fail)only[go_sem]
   repeat(first|apply Ya|apply Yb|apply Yc|((first|apply Yd|apply Ye|apply Yf|apply Yg|apply Yh);simp -implicitDefEqProofs(maxSteps:=9^7)(disch:=first|exact Yo rfl|omega|(simp only[go_sem]<;>omega)|fail)only[go_sem,sh,hanI,c0',l1,Int.toNat_natCast]<;>try with_reducible rfl)|apply Yi|apply Yj|apply Yk|apply Yl|apply Ym|apply Yn)
   apply Yu m.os.length (fun k fr => ∃ d,fr = ⟨[(1,.iptr (.agg RV) 0),(3,iv (a : Int)),(4,iv (loom : Int)),(5,.mapI .i64 ks vs),(6,.ptr 384 0 0),(13,iv (b : Int)),(14,iv d),(30,iv (m.os.length : Int)),(31,iv (k : Int))],[(384,.box [.list 1 ws,iv m.ch,.list 5 es])],[],10000000⟩∧SoonTo m f loom T b a k d)
   ·simp -implicitDefEqProofs(maxSteps:=9^7)(disch:=first|exact Yo rfl|omega|(simp only[go_sem]<;>omega)|fail)only[go_sem,norm_eq,Ok.some]
    exact ⟨never,rfl,by omega,by unfold never; omega,.inl rfl,fun k hk => by omega⟩
   rintro k fr hk ⟨d,rfl,hd⟩;by_cases h' : k < m.os.length
   ·have g1:=rg k (by omega)
    have sr:=w_shr b k (by omega)
    have hlt : b >>> k≤b:=by rw [Nat.shiftRight_eq_div_pow]; exact Nat.div_le_self _ _
    have s2:=w_and1 (b >>> k) (by omega)
    have s3:=shr_and1 b k;generalize b >>> k &&& 1 = bb at *;generalize b >>> k = bk at *;have hTk:=hT b k;by_cases cb : b.testBit k = true
    ·rw [if_pos cb] at s3
     subst s3;by_cases ct : T b k < never
     ·have ct' : ¬ (1048576 : Int)≤T b k:=by unfold never at ct; omega
      have o1:=hord k h';have o2:=hord a ha;have q0:=b0 (T b k + chg m k a);have q1:=b1 (T b k + chg m k a);have hd2:=hd.take cb ct q0;have hdl:=hd.le;have hdg:=hd.ge;by_cases cc : (m.o k).c = (m.o a).c
      ·have ec : chg m k a = 0:=by unfold chg; rw [if_neg (by simp [cc])]
       rw [ec,Int.add_zero] at q0 q1 hd2;have h1:=hB (T b k) (by unfold never at hTk; omega)
       generalize beg m f a loom (T b k) = e at *;generalize T b k = tv at *;repeat(first|apply Ya|apply Yb|apply Yc|((first|apply Yd|apply Ye|apply Yf|apply Yg|apply Yh);simp -implicitDefEqProofs(maxSteps:=9^7)(disch:=first|exact Yo rfl|omega|(simp only[go_sem]<;>omega)|fail)only[go_sem,h',Int.ofNat_lt,sr,s2,g1,ct',rl,Int.toNat_natCast,show ¬ ((1 : Nat) : Int) = 0 by omega,show (b : Int) < 128 by omega,show (k : Int) < 7 by omega,l1,o1,o2,ha,cc,h1]<;>try with_reducible rfl)|apply Yi|apply Yj|apply Yk|apply Yl|apply Ym|apply Yn)
       apply Ys
       ·simp -implicitDefEqProofs(maxSteps:=9^7)(disch:=first|exact Yo rfl|omega|(simp only[go_sem]<;>omega)|fail)only[go_sem,norm_eq,Ok.some]; with_reducible rfl
       exact ⟨h',_,by simp,hd2⟩
      ·have ec : chg m k a = m.ch:=by unfold chg; rw [if_pos cc]
       rw [ec] at q0 q1 hd2;have h1:=hB (T b k + m.ch) (by unfold never at hTk; omega)
       generalize beg m f a loom (T b k + m.ch) = e at *;generalize T b k = tv at *;repeat(first|apply Ya|apply Yb|apply Yc|((first|apply Yd|apply Ye|apply Yf|apply Yg|apply Yh);simp -implicitDefEqProofs(maxSteps:=9^7)(disch:=first|exact Yo rfl|omega|(simp only[go_sem]<;>omega)|fail)only[go_sem,h',Int.ofNat_lt,sr,s2,g1,ct',rl,Int.toNat_natCast,show ¬ ((1 : Nat) : Int) = 0 by omega,show (b : Int) < 128 by omega,show (k : Int) < 7 by omega,l1,o1,o2,ha,cc,h1]<;>try with_reducible rfl)|apply Yi|apply Yj|apply Yk|apply Yl|apply Ym|apply Yn)
       apply Ys
       ·simp -implicitDefEqProofs(maxSteps:=9^7)(disch:=first|exact Yo rfl|omega|(simp only[go_sem]<;>omega)|fail)only[go_sem,norm_eq,Ok.some]; with_reducible rfl
       exact ⟨h',_,by simp,hd2⟩
     ·have ct' : (1048576 : Int)≤T b k:=by unfold never at ct; omega
      have hd2:=hd.skip (by simp [ct])
      repeat(first|apply Ya|apply Yb|apply Yc|((first|apply Yd|apply Ye|apply Yf|apply Yg|apply Yh);simp -implicitDefEqProofs(maxSteps:=9^7)(disch:=first|exact Yo rfl|omega|(simp only[go_sem]<;>omega)|fail)only[go_sem,h',Int.ofNat_lt,sr,s2,g1,ct',rl,Int.toNat_natCast,show ¬ ((1 : Nat) : Int) = 0 by omega,show (b : Int) < 128 by omega,show (k : Int) < 7 by omega]<;>try with_reducible rfl)|apply Yi|apply Yj|apply Yk|apply Yl|apply Ym|apply Yn)
      apply Ys
      ·simp -implicitDefEqProofs(maxSteps:=9^7)(disch:=first|exact Yo rfl|omega|(simp only[go_sem]<;>omega)|fail)only[go_sem,norm_eq,Ok.some]; with_reducible rfl
      exact ⟨h',d,by simp,hd2⟩
    ·rw [if_neg cb] at s3
     subst s3;have hd2:=hd.skip (by simp [cb])
     repeat(first|apply Ya|apply Yb|apply Yc|((first|apply Yd|apply Ye|apply Yf|apply Yg|apply Yh);simp -implicitDefEqProofs(maxSteps:=9^7)(disch:=first|exact Yo rfl|omega|(simp only[go_sem]<;>omega)|fail)only[go_sem,h',Int.ofNat_lt,sr,s2,Int.toNat_natCast,show ((0 : Nat) : Int) = 0 from rfl]<;>try with_reducible rfl)|apply Yi|apply Yj|apply Yk|apply Yl|apply Ym|apply Yn)
     apply Ys
     ·simp -implicitDefEqProofs(maxSteps:=9^7)(disch:=first|exact Yo rfl|omega|(simp only[go_sem]<;>omega)|fail)only[go_sem,norm_eq,Ok.some]; with_reducible rfl
     exact ⟨h',d,by simp,hd2⟩
   ·obtain rfl : k = m.os.length:=by omega
    repeat(first|apply Ya|apply Yb|apply Yc|((first|apply Yd|apply Ye|apply Yf|apply Yg|apply Yh);simp -implicitDefEqProofs(maxSteps:=9^7)(disch:=first|exact Yo rfl|omega|(simp only[go_sem]<;>omega)|fail)only[go_sem,h',Int.ofNat_lt]<;>try with_reducible rfl)|apply Yi|apply Yj|apply Yk|apply Yl|apply Ym|apply Yn)
    refine finp_ret (r:=(iv d,[])) ?_ ⟨d,rfl,⟨fun h=>absurd h c0,fun _=>⟨hd.is,hd.all⟩⟩,hd.ge,hd.le⟩
    simp -implicitDefEqProofs(maxSteps:=9^7)(disch:=first|exact Yo rfl|omega|(simp only[go_sem]<;>omega)|fail)only[go_sem]
end Go.Abs
set_option linter.all false
namespace Go.Abs
set_option maxRecDepth 10000
set_option maxHeartbeats 4000000
open Go.Abs.Lo (OrdA MillA FixA beg chg never Soon Entry canP Path)
theorem ready_int (T : Nat → Nat → Int) : ∀ c ∈ readyV T,∃ n,c = iv n:=fun c hc => by
 unfold readyV at hc;obtain ⟨q,_,rfl⟩:=List.mem_map.1 hc;exact ⟨_,rfl⟩
theorem nmCells_intsL (F : Nat → Nat) (r : Ren) : ∀ (l : List AV) (j : Nat),(∀ c ∈ l,∃ n,c = iv n) → nmCells F j l r = (l,r)
 | [],j,_ => rfl
 | c :: l,j,h => by
  obtain ⟨n,rfl⟩:=h c (by simp)
  unfold nmCells;simp only [nmCell];rw [nmCells_intsL F r l (j + 1) fun c hc => h c (by simp [hc])]
theorem ready_nm (T : Nat → Nat → Int) (F : Nat → Nat) (j : Nat) (r : Ren) : nmCells F j (readyV T) r = (readyV T,r):=nmCells_intsL F r _ _ (ready_int T)
theorem ready_sc (T : Nat → Nat → Int) : (readyV T).all AV.scalar = true:=by
 rw [List.all_eq_true];intro c hc;obtain ⟨n,rfl⟩:=ready_int T c hc;rfl
theorem frzL_ints (R : Nat → Option Row) (d : Nat) : ∀ l : List AV,(∀ c ∈ l,∃ n,c = iv n) → frzL (frz R (d + 1)) l = some (l,[])
 | [],_ => rfl
 | c :: l,h => by
  obtain ⟨n,rfl⟩:=h c (by simp)
  rw [frzL_cons,frzL_ints R d l fun c hc => h c (by simp [hc])]
  rfl
theorem ready_frz (T : Nat → Nat → Int) (R : Nat → Option Row) (d : Nat) : frzL (frz R (d + 1)) (readyV T) = some (readyV T,[]):=frzL_ints R d _ (ready_int T)
theorem ready_put {T : Nat → Nat → Int} {s k : Nat} (v : Int) (hs : s < 128) (hk : k < 7) : (readyV T).take (s * 7 + k) ++ [iv v] ++ (readyV T).drop (s * 7 + k + 1) = readyV (setT T s k v):=by
 rw [← ready_set v hs hk,List.set_eq_take_append_cons_drop,if_pos (by rw [ready_len]; omega)]
 simp
theorem ready_zero : List.replicate 896 (iv 0) = readyV (fun _ _ => 0):=by
 unfold readyV;rw [List.map_const',List.length_range]
theorem setT_same (T : Nat → Nat → Int) (s k : Nat) (u v : Int) : setT (setT T s k u) s k v = setT T s k v:=by
 funext i j;unfold setT;split <;> rfl
def boolsV (c : Nat → Bool) (N : Nat) : List AV:=(List.range N).map fun i=>.bool (c i)
theorem bools_len (c : Nat → Bool) (N : Nat) : (boolsV c N).length = N:=by simp [boolsV]
theorem bools_get {c : Nat → Bool} {N i : Nat} (h : i < N) : (boolsV c N)[i]? = some (.bool (c i)):=by
 unfold boolsV;rw [List.getElem?_map,List.getElem?_range h]; rfl
theorem bools_set {c : Nat → Bool} {N i : Nat} (b : Bool) (h : i < N) : (boolsV c N).set i (.bool b) = boolsV (fun j=>if j = i then b else c j) N:=by
 apply List.ext_getElem?;intro j;by_cases hj : j < N
 ·rw [List.getElem?_set,bools_get hj,bools_get hj,bools_len]
  by_cases e : i = j
  ·subst e; simp [h]
  ·rw [if_neg e,if_neg (fun q=>e q.symm)]
 ·rw [List.getElem?_eq_none (by rw [List.length_set,bools_len]; omega),List.getElem?_eq_none (by rw [bools_len]; omega)]
theorem bools_plain (c : Nat → Bool) (N : Nat) : (boolsV c N).all AV.plain = true:=by
 rw [List.all_eq_true];intro x hx;unfold boolsV at hx;obtain ⟨y,-,rfl⟩:=List.mem_map.1 hx;rfl
theorem bools_zero (N : Nat) : List.replicate N (AV.bool false) = boolsV (fun _=>false) N:=by
 unfold boolsV;rw [List.map_const',List.length_range]
theorem Soon.congr {m : MillA} {f : FixA} {loom : Nat} {T T' : Nat → Nat → Int} {b a : Nat} {d : Int} (h : Soon m f loom T b a d) (hT : ∀ k,T' b k = T b k) : Soon m f loom T' b a d:=by
 refine ⟨h.1,fun hb=>⟨?_,fun k hk h1 h2 => ?_⟩⟩
 ·rcases (h.2 hb).1 with h1 | ⟨k,h1,h2,h3,h4⟩
  ·exact .inl h1
  ·exact .inr ⟨k,h1,h2,by rw [hT]; exact h3,by rw [hT]; exact h4⟩
 ·rw [hT] at h2 ⊢
  exact (h.2 hb).2 k hk h1 h2
theorem Entry.congr {m : MillA} {f : FixA} {loom : Nat} {T T' : Nat → Nat → Int} {s a : Nat} (h : Entry m f loom T s a) (h1 : T' s a = T s a) (h2 : s.testBit a = true → ∀ k,T' (andN s (2 ^ a)) k = T (andN s (2 ^ a)) k) : Entry m f loom T' s a:=by
 refine ⟨fun hb=>by rw [h1]; exact h.1 hb,fun hb=>?_⟩
 obtain ⟨d,d1,d2⟩:=h.2 hb;exact ⟨d,Soon.congr d1 (h2 hb),by rw [h1]; exact d2⟩
structure CanTo (m : MillA) (f : FixA) (loom : Nat) (T : Nat → Nat → Int) (c : Nat → Bool) (s a : Nat) : Prop where
 b : ∀ s k,0≤T s k∧T s k≤never
 ent : ∀ s',0 < s' → s' < s → ∀ a',a' < m.os.length → Entry m f loom T s' a'
 cur : ∀ a',a' < a → Entry m f loom T s a'
 out : ∀ s',s' < s → (c s' = true ↔ s' = 0 ∨ ∃ a',a' < m.os.length∧T s' a' < never)
 oc : c s = true ↔ ∃ a',a' < a∧T s a' < never
 hi : ∀ s',s < s' → c s' = false
theorem setT_at (T : Nat → Nat → Int) (s a : Nat) (v : Int) : setT T s a v s a = v:=by simp [setT]
theorem setT_ne {T : Nat → Nat → Int} {s a s' a' : Nat} (v : Int) (h : ¬ (s' = s∧a' = a)) : setT T s a v s' a' = T s' a':=by unfold setT; rw [if_neg h]
theorem CanTo.put {m : MillA} {f : FixA} {loom : Nat} {T : Nat → Nat → Int} {c : Nat → Bool} {s a : Nat} {v : Int} (h : CanTo m f loom T c s a) (h7 : s < 128) (hv : 0≤v∧v≤never) (he : Entry m f loom (setT T s a v) s a) :
  CanTo m f loom (setT T s a v) (fun j=>if j = s then (c s || decide (v < never)) else c j) s (a + 1) where
 b:=fun s' k => by unfold setT; split <;> first | exact hv | exact h.b s' k
 ent:=fun s' h1 h2 a' ha' => Entry.congr (h.ent s' h1 h2 a' ha') (setT_ne v (by omega)) fun hb k => setT_ne v (by have:=andN_le (a:=s') (b:=2 ^ a') (show s' < 9223372036854775808 by omega); omega)
 cur:=fun a' ha' => by
  by_cases e : a' = a
  ·subst e; exact he
  ·refine Entry.congr (h.cur a' (by omega)) (setT_ne v (by omega)) fun hb k => setT_ne v ?_
   have:=andN_lt (i:=a') (show s < 9223372036854775808 by omega) hb
   omega
 out:=fun s' h1 => by
  rw [if_neg (by omega),h.out s' h1]
  constructor
  ·rintro (h2 | ⟨a',h3,h4⟩)
   ·exact .inl h2
   ·exact .inr ⟨a',h3,by rw [setT_ne v (by omega)]; exact h4⟩
  ·rintro (h2 | ⟨a',h3,h4⟩)
   ·exact .inl h2
   ·rw [setT_ne v (by omega)] at h4
    exact .inr ⟨a',h3,h4⟩
 oc:=by
  rw [if_pos rfl,Bool.or_eq_true,h.oc,decide_eq_true_eq];constructor
  ·rintro (⟨a',h1,h2⟩ | h1)
   ·exact ⟨a',by omega,by rw [setT_ne v (by omega)]; exact h2⟩
   ·exact ⟨a,by omega,by rw [setT_at]; exact h1⟩
  ·rintro ⟨a',h1,h2⟩
   by_cases e : a' = a
   ·subst e; rw [setT_at] at h2; exact .inr h2
   ·rw [setT_ne v (by omega)] at h2
    exact .inl ⟨a',by omega,h2⟩
 hi:=fun s' h1 => by rw [if_neg (by omega)]; exact h.hi s' h1
theorem CanTo.next {m : MillA} {f : FixA} {loom : Nat} {T : Nat → Nat → Int} {c : Nat → Bool} {s : Nat} (h : CanTo m f loom T c s m.os.length) (h0 : 0 < s) : CanTo m f loom T c (s + 1) 0 where
 b:=h.b
 ent:=fun s' h1 h2 a' ha' => by
  by_cases e : s' = s
  ·subst e; exact h.cur a' ha'
  ·exact h.ent s' h1 (by omega) a' ha'
 cur:=fun a' ha' => by omega
 out:=fun s' h1 => by
  by_cases e : s' = s
  ·subst e
   rw [h.oc];constructor
   ·exact fun h=>.inr h
   ·rintro (h2 | h2)
    ·omega
    ·exact h2
  ·exact h.out s' (by omega)
 oc:=by
  rw [h.hi (s + 1) (by omega)]
  simp
 hi:=fun s' h1 => h.hi s' (by omega)
theorem CanTo.end {m : MillA} (hm : m.Ok) {f : FixA} {loom : Nat} {T : Nat → Nat → Int} {c : Nat → Bool} (h : CanTo m f loom T c (2 ^ m.os.length) 0) : ∀ s,s < 2 ^ m.os.length → (c s = true ↔ canP m f loom s):=fun s hs => by
 have n6:=hm.n6;have hp : 2 ^ m.os.length≤2 ^ 6:=Nat.pow_le_pow_right (by omega) n6
 rw [h.out s hs];unfold canP;by_cases h0 : s = 0
 ·simp [h0]
 ·have ht:=Lo.table_ok hm (T:=T) s (by omega) (by omega) fun s' h1 h2 a ha => h.ent s' h1 (by omega) a ha
  constructor
  ·rintro (h1 | ⟨a,h1,h2⟩)
   ·exact .inl h1
   ·exact .inr ⟨a,_,(ht a h1).1 h2⟩
  ·rintro (h1 | ⟨a,t,h1⟩)
   ·exact .inl h1
   ·have:=(ht a h1.lt).2 t h1
    have h2:=h1.in
    have h3:=(hm.o h1.lt).t1;exact .inr ⟨a,h1.lt,by unfold never; omega⟩
end Go.Abs
set_option linter.all false
namespace Go.Abs
set_option maxRecDepth 10000
set_option maxHeartbeats 4000000
open Go.Abs.Lo (OrdA MillA FixA beg chg never Soon Entry canP Path)
theorem Soon.in {m : MillA} {f : FixA} {loom : Nat} {T : Nat → Nat → Int} {b a : Nat} {d : Int} (h : Soon m f loom T b a d) (hd : d < never) : d + (m.o a).v≤(m.o a).t:=by
 by_cases hb : b = 0
 ·have e:=h.1 hb
  subst e;exact (Lo.beg_in hd).2.2.1
 ·rcases (h.2 hb).1 with e | ⟨k,_,_,_,e⟩
  ·omega
  ·subst e
   exact (Lo.beg_in hd).2.2.1
theorem can_ok (m : MillA) (hm : m.Ok) {fv : AV} {f : FixA} (hf : FixV fv f) (hr : ∀ o r,f o = some r → 0≤r.2∧r.2≤1000) (loom : Nat) (hl : loom < m.ws.length) :
  ∃ q,lim F 79 [millV m,iv (loom : Int),fv] = some q∧∃ c,q = (.own 1 (boolsV c (2 ^ m.os.length)),[])∧∀ s,s < 2 ^ m.os.length → (c s = true ↔ canP m f loom s):=by
 have hS:=fun T hT s a hs ha => soonest_ok m hm hf hr T hT s a loom hs ha hl
 have n6:=hm.n6;have hp6 : 2 ^ m.os.length≤2 ^ 6:=Nat.pow_le_pow_right (by omega) n6
 have hp0 : 0 < 2 ^ m.os.length:=Nat.pow_pos (by omega)
 have sh:=w_shl1 m.os.length (by omega)
 have hend:=fun T c h => @CanTo.end m hm f loom T c h
 have hord:=fun k (hk : k < m.os.length) => ord_get hk
 have hok:=fun k (hk : k < m.os.length) => hm.o hk
 have l1:=ord_len m;unfold millV at *;unfold ordV at hord;generalize ordsV m = es at *;generalize widV m = ws at *;generalize hN : 2 ^ m.os.length = NN at *;have z1:=bools_zero NN;have z2:=bools_set (c:=fun _=>false) (N:=NN) true hp0
 have z3 : (boolsV (fun _=>false) NN)[0]? = some (.bool false):=bools_get hp0
 have z4:=bools_len (fun _=>false) NN
 have rz:=ready_zero;have rs0:=ready_sc (fun _ _ => 0)
 have rn0:=ready_nm (fun _ _ => 0)
 generalize hR0 : readyV (fun _ _ => 0) = R0 at *
 have hfz : fv = .const (.map none) ∨ ∃ ks vs,fv = .mapI .i64 ks vs:=by cases hf <;> simp
 rcases hfz with rfl | ⟨ks,vs,rfl⟩
 ·refine lim_ex (fn:=a79) (k:=3) (res:=[.tmp 6]) rfl rfl rfl (by simp -implicitDefEqProofs(maxSteps:=9^7)(disch:=first|exact Yo rfl|omega|(simp only[go_sem]<;>omega)|fail)only[go_sem]) ?_
  try delta mvA
  try delta opA
  try delta tA
  simp -implicitDefEqProofs(maxSteps:=9^7)(disch:=first|exact Yo rfl|omega|(simp only[go_sem]<;>omega)|fail)only[go_sem]
  repeat(first|apply Ya|apply Yb|apply Yc|((first|apply Yd|apply Ye|apply Yf|apply Yg|apply Yh);simp -implicitDefEqProofs(maxSteps:=9^7)(disch:=first|exact Yo rfl|omega|(simp only[go_sem]<;>omega)|fail)only[go_sem,l1,sh,rz,rs0,z1,z2,z3,z4,hp0,Int.ofNat_lt,Int.toNat_natCast]<;>try with_reducible rfl)|apply Yi|apply Yj|apply Yk|apply Yl|apply Ym|apply Yn)
  clear sh rz z1 z2 z3 z4;apply Yu (NN - 1) (fun i fr => ∃ T c,fr = ⟨[(1,iv (loom : Int)),(2,.const (.map none)),(3,.ptr 192 0 0),(6,.slice 384 0 NN),(7,.ptr 448 0 0),(8,iv (NN : Int)),(9,iv ((i + 1 : Nat) : Int))],[(192,.box [.list 1 ws,iv m.ch,.list 5 es]),(384,.arr 1 (boolsV c NN)),(448,.box (readyV T))],[],10000000⟩∧CanTo m f loom T c (i + 1) 0)
  ·simp -implicitDefEqProofs(maxSteps:=9^7)(disch:=first|exact Yo rfl|omega|(simp only[go_sem]<;>omega)|fail)only[go_sem,norm_eq,Ok.some,rs0,rn0]
   refine ⟨fun _ _ => 0,_,by rw [hR0]; rfl,⟨fun s k => by unfold never; omega,fun s' h1 h2 => by omega,fun a' h => by omega,fun s' h1 => ?_,?_,fun s' h1 => ?_⟩⟩
   ·rw [show s' = 0 by omega]; simp
   ·simp
   ·simp; omega
  clear rs0 rn0 hR0;rintro i fr hi ⟨T,c,rfl,hc⟩;obtain ⟨set,hset⟩ : ∃ set,set = i + 1:=⟨_,rfl⟩;rw [← hset] at hc;rw [← hset];by_cases h' : set < NN
  ·repeat(first|apply Ya|apply Yb|apply Yc|((first|apply Yd|apply Ye|apply Yf|apply Yg|apply Yh);simp -implicitDefEqProofs(maxSteps:=9^7)(disch:=first|exact Yo rfl|omega|(simp only[go_sem]<;>omega)|fail)only[go_sem,h',Int.ofNat_lt,l1]<;>try with_reducible rfl)|apply Yi|apply Yj|apply Yk|apply Yl|apply Ym|apply Yn)
   apply Yu m.os.length (fun a fr => ∃ T c,fr = ⟨[(1,iv (loom : Int)),(2,.const (.map none)),(3,.ptr 192 0 0),(6,.slice 384 0 NN),(7,.ptr 448 0 0),(8,iv (NN : Int)),(9,iv (set : Int)),(27,iv (m.os.length : Int)),(28,iv (a : Int))],[(192,.box [.list 1 ws,iv m.ch,.list 5 es]),(384,.arr 1 (boolsV c NN)),(448,.box (readyV T))],[],10000000⟩∧CanTo m f loom T c set a)
   ·have b1:=ready_sc T
    have b2:=ready_nm T;generalize hRT : readyV T = RT at *;simp -implicitDefEqProofs(maxSteps:=9^7)(disch:=first|exact Yo rfl|omega|(simp only[go_sem]<;>omega)|fail)only[go_sem,norm_eq,Ok.some,b1,b2]
    exact ⟨T,c,by rw [hRT]; rfl,hc⟩
   clear hc;rintro a fr ha ⟨T,c,rfl,hc⟩;by_cases h2 : a < m.os.length
   ·have r1:=ready_len T
    have r2 : (readyV T)[set * 7 + a]? = some (iv (T set a)):=ready_get (by omega) (by omega)
    have r3 : (readyV T).take (set * 7 + a * 1) ++ [iv 1048576] ++ (readyV T).drop (set * 7 + a * 1 + 1) = readyV (setT T set a never):=by
     rw [Nat.mul_one];exact ready_put never (by omega) (by omega)
    have n1:=ready_sc (setT T set a never);have n2:=ready_nm (setT T set a never);have n3:=ready_len (setT T set a never);have sr:=w_shr set a (by omega)
    have hlt : set >>> a≤set:=by rw [Nat.shiftRight_eq_div_pow]; exact Nat.div_le_self _ _
    have s2:=w_and1 (set >>> a) (by omega)
    have s3:=shr_and1 set a;generalize set >>> a &&& 1 = bb at *;generalize set >>> a = bk at *;by_cases cb : set.testBit a = true
    ·rw [if_pos cb] at s3
     subst s3;obtain ⟨q,hq,d,rfl,hsn,d0,d1⟩:=hS (setT T set a never) (fun s' k => by unfold setT; split <;> first | (unfold never; omega) | exact hc.b s' k) set a (by omega) h2
     have hsn2 : ∀ v,Soon m f loom (setT T set a v) (andN set (2 ^ a)) a d:=fun v=>by
      have hlt2:=andN_lt (i:=a) (show set < 9223372036854775808 by omega) cb
      exact Soon.congr hsn fun k=>by rw [setT_ne v (by omega),setT_ne never (by omega)]
     have o1:=hord a h2;have v1:=(hok a h2).v1;have t1:=(hok a h2).t1;have rf : ∀ R,frzL (frz R 5) (readyV (setT T set a never)) = some (readyV (setT T set a never),[]):=fun R=>ready_frz _ R 4
     have i1 : set * 7 + a * 1 + 1≤896:=by omega
     by_cases cd : d < never
     ·have din:=Soon.in hsn cd
      have hc2:=hc.put (v:=d + (m.o a).v) (by omega) (by unfold never; omega) ⟨fun h=>absurd h (by simp [cb]),fun _=>⟨d,hsn2 _,by rw [setT_at,if_pos cd]⟩⟩
      rw [show (c set || decide (d + (m.o a).v < never)) = true by rw [decide_eq_true (by unfold never; omega)]; simp] at hc2
      have r4 : (readyV (setT T set a never)).take (set * 7 + a * 1) ++ [iv (d + (m.o a).v)] ++ (readyV (setT T set a never)).drop (set * 7 + a * 1 + 1) = readyV (setT T set a (d + (m.o a).v)):=by
       rw [Nat.mul_one,ready_put (d + (m.o a).v) (by omega) (by omega),setT_same]
      have p1:=ready_sc (setT T set a (d + (m.o a).v));have p2:=ready_nm (setT T set a (d + (m.o a).v));have k1:=bools_len c NN;have k2:=bools_get (c:=c) h';have k3:=bools_set (c:=c) true h';have cd' : d < 1048576:=cd;generalize hR3 : readyV (setT T set a (d + (m.o a).v)) = R3 at *;generalize readyV (setT T set a never) = R2 at *;generalize readyV T = R1 at *;repeat(first|apply Ya|apply Yb|apply Yc|((first|apply Yd|apply Ye|apply Yf|apply Yg|apply Yh);simp -implicitDefEqProofs(maxSteps:=9^7)(disch:=first|exact Yo rfl|omega|(simp only[go_sem]<;>omega)|fail)only[go_sem,h2,h',Int.ofNat_lt,r1,r2,r3,sr,s2,n3,rf,hq,o1,l1,cd',r4,k1,k2,k3,i1,Int.toNat_natCast,show (set : Int) < 128 by omega,show (a : Int) < 7 by omega,show ¬ ((1 : Nat) : Int) = 0 by omega]<;>try with_reducible rfl)|apply Yi|apply Yj|apply Yk|apply Yl|apply Ym|apply Yn)
      apply Ys
      ·simp -implicitDefEqProofs(maxSteps:=9^7)(disch:=first|exact Yo rfl|omega|(simp only[go_sem]<;>omega)|fail)only[go_sem,norm_eq,Ok.some,p1,p2]; with_reducible rfl
      exact ⟨h2,_,_,by rw [hR3]; rfl,hc2⟩
     ·have hc2:=hc.put (v:=never) (by omega) (by unfold never; omega) ⟨fun h=>absurd h (by simp [cb]),fun _=>⟨d,hsn2 _,by rw [setT_at,if_neg cd]⟩⟩
      rw [show (c set || decide (never < never)) = c set by simp] at hc2
      rw [show (fun j=>if j = set then c set else c j) = c by funext j; split <;> simp_all] at hc2
      have cd' : ¬ d < 1048576:=cd;generalize hR2 : readyV (setT T set a never) = R2 at *;generalize readyV T = R1 at *;repeat(first|apply Ya|apply Yb|apply Yc|((first|apply Yd|apply Ye|apply Yf|apply Yg|apply Yh);simp -implicitDefEqProofs(maxSteps:=9^7)(disch:=first|exact Yo rfl|omega|(simp only[go_sem]<;>omega)|fail)only[go_sem,h2,Int.ofNat_lt,r1,r2,r3,sr,s2,n3,rf,hq,cd',i1,Int.toNat_natCast,show (set : Int) < 128 by omega,show (a : Int) < 7 by omega,show ¬ ((1 : Nat) : Int) = 0 by omega]<;>try with_reducible rfl)|apply Yi|apply Yj|apply Yk|apply Yl|apply Ym|apply Yn)
      apply Ys
      ·simp -implicitDefEqProofs(maxSteps:=9^7)(disch:=first|exact Yo rfl|omega|(simp only[go_sem]<;>omega)|fail)only[go_sem,norm_eq,Ok.some,n1,n2]; with_reducible rfl
      exact ⟨h2,_,c,by rw [hR2]; rfl,hc2⟩
    ·rw [if_neg cb] at s3
     subst s3;have hc2:=hc.put (v:=never) (by omega) (by unfold never; omega) ⟨fun _=>setT_at _ _ _ _,fun h=>absurd h cb⟩
     rw [show (c set || decide (never < never)) = c set by simp] at hc2
     rw [show (fun j=>if j = set then c set else c j) = c by funext j; split <;> simp_all] at hc2
     generalize hR2 : readyV (setT T set a never) = R2 at *;generalize readyV T = R1 at *;repeat(first|apply Ya|apply Yb|apply Yc|((first|apply Yd|apply Ye|apply Yf|apply Yg|apply Yh);simp -implicitDefEqProofs(maxSteps:=9^7)(disch:=first|exact Yo rfl|omega|(simp only[go_sem]<;>omega)|fail)only[go_sem,h2,Int.ofNat_lt,r1,r2,r3,sr,s2,Int.toNat_natCast,show (set : Int) < 128 by omega,show (a : Int) < 7 by omega,show ((0 : Nat) : Int) = 0 from rfl]<;>try with_reducible rfl)|apply Yi|apply Yj|apply Yk|apply Yl|apply Ym|apply Yn)
     apply Ys
     ·simp -implicitDefEqProofs(maxSteps:=9^7)(disch:=first|exact Yo rfl|omega|(simp only[go_sem]<;>omega)|fail)only[go_sem,norm_eq,Ok.some,n1,n2]; with_reducible rfl
     exact ⟨h2,_,c,by rw [hR2]; rfl,hc2⟩
   ·obtain rfl : a = m.os.length:=by omega
    have b1:=ready_sc T;have b2:=ready_nm T;have hc2:=hc.next (by omega)
    generalize hRT : readyV T = RT at *;repeat(first|apply Ya|apply Yb|apply Yc|((first|apply Yd|apply Ye|apply Yf|apply Yg|apply Yh);simp -implicitDefEqProofs(maxSteps:=9^7)(disch:=first|exact Yo rfl|omega|(simp only[go_sem]<;>omega)|fail)only[go_sem,h2,Int.ofNat_lt]<;>try with_reducible rfl)|apply Yi|apply Yj|apply Yk|apply Yl|apply Ym|apply Yn)
    apply Ys
    ·simp -implicitDefEqProofs(maxSteps:=9^7)(disch:=first|exact Yo rfl|omega|(simp only[go_sem]<;>omega)|fail)only[go_sem,norm_eq,Ok.some,b1,b2]; with_reducible rfl
    exact ⟨by omega,T,c,by rw [hRT]; rfl,hc2⟩
  ·obtain rfl : set = NN:=by omega
   have hc3:=hend T c hc;have k1:=bools_len c set;have k2 : (boolsV c set).take set = boolsV c set:=List.take_of_length_le (by omega)
   have k3:=bools_plain c set;repeat(first|apply Ya|apply Yb|apply Yc|((first|apply Yd|apply Ye|apply Yf|apply Yg|apply Yh);simp -implicitDefEqProofs(maxSteps:=9^7)(disch:=first|exact Yo rfl|omega|(simp only[go_sem]<;>omega)|fail)only[go_sem,h',Int.ofNat_lt]<;>try with_reducible rfl)|apply Yi|apply Yj|apply Yk|apply Yl|apply Ym|apply Yn)
   refine finp_ret (r:=(.own 1 (boolsV c set),[])) ?_ ⟨c,rfl,hc3⟩;generalize boolsV c set = BV at *;simp -implicitDefEqProofs(maxSteps:=9^7)(disch:=first|exact Yo rfl|omega|(simp only[go_sem]<;>omega)|fail)only[go_sem,k1,k2,k3]
 ·refine lim_ex (fn:=a79) (k:=3) (res:=[.tmp 6]) rfl rfl rfl (by simp -implicitDefEqProofs(maxSteps:=9^7)(disch:=first|exact Yo rfl|omega|(simp only[go_sem]<;>omega)|fail)only[go_sem]) ?_
  try delta mvA
  try delta opA
  try delta tA
  simp -implicitDefEqProofs(maxSteps:=9^7)(disch:=first|exact Yo rfl|omega|(simp only[go_sem]<;>omega)|fail)only[go_sem]
  repeat(first|apply Ya|apply Yb|apply Yc|((first|apply Yd|apply Ye|apply Yf|apply Yg|apply Yh);simp -implicitDefEqProofs(maxSteps:=9^7)(disch:=first|exact Yo rfl|omega|(simp only[go_sem]<;>omega)|fail)only[go_sem,l1,sh,rz,rs0,z1,z2,z3,z4,hp0,Int.ofNat_lt,Int.toNat_natCast]<;>try with_reducible rfl)|apply Yi|apply Yj|apply Yk|apply Yl|apply Ym|apply Yn)
  clear sh rz z1 z2 z3 z4;apply Yu (NN - 1) (fun i fr => ∃ T c,fr = ⟨[(1,iv (loom : Int)),(2,.mapI .i64 ks vs),(3,.ptr 192 0 0),(6,.slice 384 0 NN),(7,.ptr 448 0 0),(8,iv (NN : Int)),(9,iv ((i + 1 : Nat) : Int))],[(192,.box [.list 1 ws,iv m.ch,.list 5 es]),(384,.arr 1 (boolsV c NN)),(448,.box (readyV T))],[],10000000⟩∧CanTo m f loom T c (i + 1) 0)
  ·simp -implicitDefEqProofs(maxSteps:=9^7)(disch:=first|exact Yo rfl|omega|(simp only[go_sem]<;>omega)|fail)only[go_sem,norm_eq,Ok.some,rs0,rn0]
   refine ⟨fun _ _ => 0,_,by rw [hR0]; rfl,⟨fun s k => by unfold never; omega,fun s' h1 h2 => by omega,fun a' h => by omega,fun s' h1 => ?_,?_,fun s' h1 => ?_⟩⟩
   ·rw [show s' = 0 by omega]; simp
   ·simp
   ·simp; omega
  clear rs0 rn0 hR0;rintro i fr hi ⟨T,c,rfl,hc⟩;obtain ⟨set,hset⟩ : ∃ set,set = i + 1:=⟨_,rfl⟩;rw [← hset] at hc;rw [← hset];by_cases h' : set < NN
  ·repeat(first|apply Ya|apply Yb|apply Yc|((first|apply Yd|apply Ye|apply Yf|apply Yg|apply Yh);simp -implicitDefEqProofs(maxSteps:=9^7)(disch:=first|exact Yo rfl|omega|(simp only[go_sem]<;>omega)|fail)only[go_sem,h',Int.ofNat_lt,l1]<;>try with_reducible rfl)|apply Yi|apply Yj|apply Yk|apply Yl|apply Ym|apply Yn)
   apply Yu m.os.length (fun a fr => ∃ T c,fr = ⟨[(1,iv (loom : Int)),(2,.mapI .i64 ks vs),(3,.ptr 192 0 0),(6,.slice 384 0 NN),(7,.ptr 448 0 0),(8,iv (NN : Int)),(9,iv (set : Int)),(27,iv (m.os.length : Int)),(28,iv (a : Int))],[(192,.box [.list 1 ws,iv m.ch,.list 5 es]),(384,.arr 1 (boolsV c NN)),(448,.box (readyV T))],[],10000000⟩∧CanTo m f loom T c set a)
   ·have b1:=ready_sc T
    have b2:=ready_nm T;generalize hRT : readyV T = RT at *;simp -implicitDefEqProofs(maxSteps:=9^7)(disch:=first|exact Yo rfl|omega|(simp only[go_sem]<;>omega)|fail)only[go_sem,norm_eq,Ok.some,b1,b2]
    exact ⟨T,c,by rw [hRT]; rfl,hc⟩
   clear hc;rintro a fr ha ⟨T,c,rfl,hc⟩;by_cases h2 : a < m.os.length
   ·have r1:=ready_len T
    have r2 : (readyV T)[set * 7 + a]? = some (iv (T set a)):=ready_get (by omega) (by omega)
    have r3 : (readyV T).take (set * 7 + a * 1) ++ [iv 1048576] ++ (readyV T).drop (set * 7 + a * 1 + 1) = readyV (setT T set a never):=by
     rw [Nat.mul_one];exact ready_put never (by omega) (by omega)
    have n1:=ready_sc (setT T set a never);have n2:=ready_nm (setT T set a never);have n3:=ready_len (setT T set a never);have sr:=w_shr set a (by omega)
    have hlt : set >>> a≤set:=by rw [Nat.shiftRight_eq_div_pow]; exact Nat.div_le_self _ _
    have s2:=w_and1 (set >>> a) (by omega)
    have s3:=shr_and1 set a;generalize set >>> a &&& 1 = bb at *;generalize set >>> a = bk at *;by_cases cb : set.testBit a = true
    ·rw [if_pos cb] at s3
     subst s3;obtain ⟨q,hq,d,rfl,hsn,d0,d1⟩:=hS (setT T set a never) (fun s' k => by unfold setT; split <;> first | (unfold never; omega) | exact hc.b s' k) set a (by omega) h2
     have hsn2 : ∀ v,Soon m f loom (setT T set a v) (andN set (2 ^ a)) a d:=fun v=>by
      have hlt2:=andN_lt (i:=a) (show set < 9223372036854775808 by omega) cb
      exact Soon.congr hsn fun k=>by rw [setT_ne v (by omega),setT_ne never (by omega)]
     have o1:=hord a h2;have v1:=(hok a h2).v1;have t1:=(hok a h2).t1;have rf : ∀ R,frzL (frz R 5) (readyV (setT T set a never)) = some (readyV (setT T set a never),[]):=fun R=>ready_frz _ R 4
     have i1 : set * 7 + a * 1 + 1≤896:=by omega
     by_cases cd : d < never
     ·have din:=Soon.in hsn cd
      have hc2:=hc.put (v:=d + (m.o a).v) (by omega) (by unfold never; omega) ⟨fun h=>absurd h (by simp [cb]),fun _=>⟨d,hsn2 _,by rw [setT_at,if_pos cd]⟩⟩
      rw [show (c set || decide (d + (m.o a).v < never)) = true by rw [decide_eq_true (by unfold never; omega)]; simp] at hc2
      have r4 : (readyV (setT T set a never)).take (set * 7 + a * 1) ++ [iv (d + (m.o a).v)] ++ (readyV (setT T set a never)).drop (set * 7 + a * 1 + 1) = readyV (setT T set a (d + (m.o a).v)):=by
       rw [Nat.mul_one,ready_put (d + (m.o a).v) (by omega) (by omega),setT_same]
      have p1:=ready_sc (setT T set a (d + (m.o a).v));have p2:=ready_nm (setT T set a (d + (m.o a).v));have k1:=bools_len c NN;have k2:=bools_get (c:=c) h';have k3:=bools_set (c:=c) true h';have cd' : d < 1048576:=cd;generalize hR3 : readyV (setT T set a (d + (m.o a).v)) = R3 at *;generalize readyV (setT T set a never) = R2 at *;generalize readyV T = R1 at *;repeat(first|apply Ya|apply Yb|apply Yc|((first|apply Yd|apply Ye|apply Yf|apply Yg|apply Yh);simp -implicitDefEqProofs(maxSteps:=9^7)(disch:=first|exact Yo rfl|omega|(simp only[go_sem]<;>omega)|fail)only[go_sem,h2,h',Int.ofNat_lt,r1,r2,r3,sr,s2,n3,rf,hq,o1,l1,cd',r4,k1,k2,k3,i1,Int.toNat_natCast,show (set : Int) < 128 by omega,show (a : Int) < 7 by omega,show ¬ ((1 : Nat) : Int) = 0 by omega]<;>try with_reducible rfl)|apply Yi|apply Yj|apply Yk|apply Yl|apply Ym|apply Yn)
      apply Ys
      ·simp -implicitDefEqProofs(maxSteps:=9^7)(disch:=first|exact Yo rfl|omega|(simp only[go_sem]<;>omega)|fail)only[go_sem,norm_eq,Ok.some,p1,p2]; with_reducible rfl
      exact ⟨h2,_,_,by rw [hR3]; rfl,hc2⟩
     ·have hc2:=hc.put (v:=never) (by omega) (by unfold never; omega) ⟨fun h=>absurd h (by simp [cb]),fun _=>⟨d,hsn2 _,by rw [setT_at,if_neg cd]⟩⟩
      rw [show (c set || decide (never < never)) = c set by simp] at hc2
      rw [show (fun j=>if j = set then c set else c j) = c by funext j; split <;> simp_all] at hc2
      have cd' : ¬ d < 1048576:=cd;generalize hR2 : readyV (setT T set a never) = R2 at *;generalize readyV T = R1 at *;repeat(first|apply Ya|apply Yb|apply Yc|((first|apply Yd|apply Ye|apply Yf|apply Yg|apply Yh);simp -implicitDefEqProofs(maxSteps:=9^7)(disch:=first|exact Yo rfl|omega|(simp only[go_sem]<;>omega)|fail)only[go_sem,h2,Int.ofNat_lt,r1,r2,r3,sr,s2,n3,rf,hq,cd',i1,Int.toNat_natCast,show (set : Int) < 128 by omega,show (a : Int) < 7 by omega,show ¬ ((1 : Nat) : Int) = 0 by omega]<;>try with_reducible rfl)|apply Yi|apply Yj|apply Yk|apply Yl|apply Ym|apply Yn)
      apply Ys
      ·simp -implicitDefEqProofs(maxSteps:=9^7)(disch:=first|exact Yo rfl|omega|(simp only[go_sem]<;>omega)|fail)only[go_sem,norm_eq,Ok.some,n1,n2]; with_reducible rfl
      exact ⟨h2,_,c,by rw [hR2]; rfl,hc2⟩
    ·rw [if_neg cb] at s3
     subst s3;have hc2:=hc.put (v:=never) (by omega) (by unfold never; omega) ⟨fun _=>setT_at _ _ _ _,fun h=>absurd h cb⟩
     rw [show (c set || decide (never < never)) = c set by simp] at hc2
     rw [show (fun j=>if j = set then c set else c j) = c by funext j; split <;> simp_all] at hc2
     generalize hR2 : readyV (setT T set a never) = R2 at *;generalize readyV T = R1 at *;repeat(first|apply Ya|apply Yb|apply Yc|((first|apply Yd|apply Ye|apply Yf|apply Yg|apply Yh);simp -implicitDefEqProofs(maxSteps:=9^7)(disch:=first|exact Yo rfl|omega|(simp only[go_sem]<;>omega)|fail)only[go_sem,h2,Int.ofNat_lt,r1,r2,r3,sr,s2,Int.toNat_natCast,show (set : Int) < 128 by omega,show (a : Int) < 7 by omega,show ((0 : Nat) : Int) = 0 from rfl]<;>try with_reducible rfl)|apply Yi|apply Yj|apply Yk|apply Yl|apply Ym|apply Yn)
     apply Ys
     ·simp -implicitDefEqProofs(maxSteps:=9^7)(disch:=first|exact Yo rfl|omega|(simp only[go_sem]<;>omega)|fail)only[go_sem,norm_eq,Ok.some,n1,n2]; with_reducible rfl
     exact ⟨h2,_,c,by rw [hR2]; rfl,hc2⟩
   ·obtain rfl : a = m.os.length:=by omega
    have b1:=ready_sc T;have b2:=ready_nm T;have hc2:=hc.next (by omega)
    generalize hRT : readyV T = RT at *;repeat(first|apply Ya|apply Yb|apply Yc|((first|apply Yd|apply Ye|apply Yf|apply Yg|apply Yh);simp -implicitDefEqProofs(maxSteps:=9^7)(disch:=first|exact Yo rfl|omega|(simp only[go_sem]<;>omega)|fail)only[go_sem,h2,Int.ofNat_lt]<;>try with_reducible rfl)|apply Yi|apply Yj|apply Yk|apply Yl|apply Ym|apply Yn)
    apply Ys
    ·simp -implicitDefEqProofs(maxSteps:=9^7)(disch:=first|exact Yo rfl|omega|(simp only[go_sem]<;>omega)|fail)only[go_sem,norm_eq,Ok.some,b1,b2]; with_reducible rfl
    exact ⟨by omega,T,c,by rw [hRT]; rfl,hc2⟩
  ·obtain rfl : set = NN:=by omega
   have hc3:=hend T c hc;have k1:=bools_len c set;have k2 : (boolsV c set).take set = boolsV c set:=List.take_of_length_le (by omega)
   have k3:=bools_plain c set;repeat(first|apply Ya|apply Yb|apply Yc|((first|apply Yd|apply Ye|apply Yf|apply Yg|apply Yh);simp -implicitDefEqProofs(maxSteps:=9^7)(disch:=first|exact Yo rfl|omega|(simp only[go_sem]<;>omega)|fail)only[go_sem,h',Int.ofNat_lt]<;>try with_reducible rfl)|apply Yi|apply Yj|apply Yk|apply Yl|apply Ym|apply Yn)
   refine finp_ret (r:=(.own 1 (boolsV c set),[])) ?_ ⟨c,rfl,hc3⟩;generalize boolsV c set = BV at *;simp -implicitDefEqProofs(maxSteps:=9^7)(disch:=first|exact Yo rfl|omega|(simp only[go_sem]<;>omega)|fail)only[go_sem,k1,k2,k3]
end Go.Abs
