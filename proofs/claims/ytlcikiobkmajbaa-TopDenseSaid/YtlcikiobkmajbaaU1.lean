/-
 Several texts: L1, V1, V2, U1.
-/
import Derived.Test.YtlcikiobkmajbaaV0
set_option linter.all false
namespace Go.Abs
set_option maxRecDepth 10000
set_option maxHeartbeats 2000000
def DesN.cap (d : DesN) : AV:=.iptr (.agg [iv (d.hk : Int),.list 1 (d.rows.map fun n : Nat => iv (n : Int))]) 0
theorem contains_one (l : List Int) (p : Int → Bool) (f : Nat) (x : AV) (hl : l.length < 1000000000) (hp : ∀ n ∈ l,lim F f [iv n,.iptr x 0] = some (.bool (p n),[])) :
  lim F 87 [.list 1 (l.map fun n=>iv n),.func f [.iptr x 0]] = some (.bool (l.any p),[]):=by
 have h : lim F 119 [.list 1 (l.map fun n=>iv n),.func f [.iptr x 0]] = some (iv (idxF p l),[]):=by
  refine Yr (fn:=a119) (k:=2) (res:=[.tmp 4]) rfl rfl rfl (by simp -implicitDefEqProofs(maxSteps:=9^7)(disch:=first|exact Yo rfl|omega|(simp only[go_sem]<;>omega)|fail)only[go_sem]) ?_
  try delta mvA
  try delta opA
  try delta tA
  simp -implicitDefEqProofs(maxSteps:=9^7)(disch:=first|exact Yo rfl|omega|(simp only[go_sem]<;>omega)|fail)only[go_sem]
  repeat(first|apply Ya|apply Yb|apply Yc|((first|apply Yd|apply Ye|apply Yf|apply Yg|apply Yh);simp -implicitDefEqProofs(maxSteps:=9^7)(disch:=first|exact Yo rfl|omega|(simp only[go_sem]<;>omega)|fail)only[go_sem]<;>try with_reducible rfl)|apply Yi|apply Yj|apply Yk|apply Yl|apply Ym|apply Yn)
  apply Yt l.length (fun i=>⟨[(0,.list 1 (l.map fun n=>iv n)),(1,.func f [.iptr x 0]),(7,iv l.length),(8,iv i)],[],[],10000000⟩) (fun i=>∀ j (hj : j < l.length),j < i → p l[j] = false)
  ·simp -implicitDefEqProofs(maxSteps:=9^7)(disch:=first|exact Yo rfl|omega|(simp only[go_sem]<;>omega)|fail)only[go_sem,norm_eq,Ok.some]
   rfl
  ·intro j hj h; omega
  intro i hi hn;by_cases h : i < l.length
  ·have hc:=hp l[i] (List.getElem_mem h)
   cases hb : p l[i] with
   | true =>
    rw [hb] at hc;repeat(first|apply Ya|apply Yb|apply Yc|((first|apply Yd|apply Ye|apply Yf|apply Yg|apply Yh);simp -implicitDefEqProofs(maxSteps:=9^7)(disch:=first|exact Yo rfl|omega|(simp only[go_sem]<;>omega)|fail)only[go_sem,h,List.getElem?_map,List.getElem?_eq_getElem h,Option.map_some,hc,Int.ofNat_lt]<;>try with_reducible rfl)|apply Yi|apply Yj|apply Yk|apply Yl|apply Ym|apply Yn)
    rw [idxF_at h hb hn]
   | false =>
    rw [hb] at hc;repeat(first|apply Ya|apply Yb|apply Yc|((first|apply Yd|apply Ye|apply Yf|apply Yg|apply Yh);simp -implicitDefEqProofs(maxSteps:=9^7)(disch:=first|exact Yo rfl|omega|(simp only[go_sem]<;>omega)|fail)only[go_sem,h,List.getElem?_map,List.getElem?_eq_getElem h,Option.map_some,hc,Int.ofNat_lt]<;>try with_reducible rfl)|apply Yi|apply Yj|apply Yk|apply Yl|apply Ym|apply Yn)
    apply Ys
    ·simp -implicitDefEqProofs(maxSteps:=9^7)(disch:=first|exact Yo rfl|omega|(simp only[go_sem]<;>omega)|fail)only[go_sem,norm_eq,Ok.some]; with_reducible rfl
    refine ⟨h,by simp,fun j hj hji => ?_⟩
    by_cases e : j = i
    ·subst e; exact hb
    ·exact hn j hj (by omega)
  ·repeat(first|apply Ya|apply Yb|apply Yc|((first|apply Yd|apply Ye|apply Yf|apply Yg|apply Yh);simp -implicitDefEqProofs(maxSteps:=9^7)(disch:=first|exact Yo rfl|omega|(simp only[go_sem]<;>omega)|fail)only[go_sem,h,Int.ofNat_lt]<;>try with_reducible rfl)|apply Yi|apply Yj|apply Yk|apply Yl|apply Ym|apply Yn)
   rw [idxF_no fun j hj => hn j hj (by omega)]
 refine Yr (fn:=a87) (k:=2) (res:=[.tmp 4]) rfl rfl rfl (by simp -implicitDefEqProofs(maxSteps:=9^7)(disch:=first|exact Yo rfl|omega|(simp only[go_sem]<;>omega)|fail)only[go_sem]) ?_
 try delta mvA
 try delta opA
 try delta tA
 simp -implicitDefEqProofs(maxSteps:=9^7)(disch:=first|exact Yo rfl|omega|(simp only[go_sem]<;>omega)|fail)only[go_sem]
 repeat(first|apply Ya|apply Yb|apply Yc|((first|apply Yd|apply Ye|apply Yf|apply Yg|apply Yh);simp -implicitDefEqProofs(maxSteps:=9^7)(disch:=first|exact Yo rfl|omega|(simp only[go_sem]<;>omega)|fail)only[go_sem,h,idxF_ge]<;>try with_reducible rfl)|apply Yi|apply Yj|apply Yk|apply Yl|apply Ym|apply Yn)
end Go.Abs
set_option linter.all false
namespace Go.Abs
set_option maxRecDepth 10000
set_option maxHeartbeats 4000000
def Lr (g : Nat → Nat → Bool) (picks hooks p v : Nat) : List AV:=(List.range picks).map fun q=>iv ((if q < p then rowTo (g q) hooks else if q = p then v else 0 : Nat) : Int)
theorem Lr_len (g : Nat → Nat → Bool) (picks hooks p v : Nat) : (Lr g picks hooks p v).length = picks:=by simp [Lr]
theorem Lr_get {g : Nat → Nat → Bool} {picks hooks p v : Nat} (h : p < picks) : (Lr g picks hooks p v)[p]? = some (iv (v : Int)):=by
 unfold Lr;rw [List.getElem?_map,List.getElem?_range h];simp
theorem Lr_set {g : Nat → Nat → Bool} {picks hooks p v w : Nat} (h : p < picks) : (Lr g picks hooks p v).set p (iv (w : Int)) = Lr g picks hooks p w:=by
 apply List.ext_getElem
 ·simp [Lr]
 ·intro i h1 h2
  rw [List.getElem_set];by_cases e : p = i
  ·subst e
   simp [Lr]
  ·rw [if_neg e]
   have e' : ¬ i = p:=fun h=>e h.symm
   simp [Lr,e']
theorem Lr_next {g : Nat → Nat → Bool} {picks hooks p : Nat} : Lr g picks hooks p (rowTo (g p) hooks) = Lr g picks hooks (p + 1) 0:=by
 unfold Lr;apply List.map_congr_left;intro q _;by_cases h1 : q < p
 ·rw [if_pos h1,if_pos (by omega)]
 ·by_cases h2 : q = p
  ·rw [if_neg h1,if_pos h2,if_pos (by omega),h2]
  ·rw [if_neg h1,if_neg h2,if_neg (by omega)]
   split <;> rfl
theorem Lr_zero (g : Nat → Nat → Bool) (picks hooks : Nat) : Lr g picks hooks 0 0 = List.replicate picks (iv 0):=by
 unfold Lr;apply List.ext_getElem
 ·simp
 ·intro i h1 h2
  simp
def madeN (g : Nat → Nat → Bool) (picks hooks : Nat) : DesN:=⟨hooks,(List.range picks).map fun q=>rowTo (g q) hooks⟩
theorem Lr_end (g : Nat → Nat → Bool) (picks hooks : Nat) : Lr g picks hooks picks 0 = (madeN g picks hooks).rows.map fun n : Nat => iv (n : Int):=by
 unfold Lr madeN;rw [List.map_map];apply List.map_congr_left;intro q hq;rw [if_pos (List.mem_range.1 hq)]; rfl
theorem Lr_plain (g : Nat → Nat → Bool) (picks hooks p v : Nat) : (Lr g picks hooks p v).all AV.plain = true:=by
 simp [Lr,AV.plain,AV.plain1]
theorem madeN_ok {g : Nat → Nat → Bool} {picks hooks : Nat} (h1 : 1≤hooks) (h2 : hooks≤24) (h3 : 1≤picks) (h4 : picks≤60) : (madeN g picks hooks).Ok where
 h1:=h1
 h24:=h2
 r1:=by simp [madeN]; omega
 r60:=by simp [madeN]; omega
 lt:=fun r hr => by
  obtain ⟨q,_,rfl⟩:=List.mem_map.1 hr;exact rowTo_lt _ _
end Go.Abs
set_option linter.all false
namespace Go.Abs
set_option maxRecDepth 10000
set_option maxHeartbeats 4000000
def mirrorN (d : DesN) : DesN:=madeN (fun p h => atN d p (d.hk - 1 - h)) d.rows.length d.hk
def flipN (d : DesN) : DesN:=madeN (fun p h => atN d (d.rows.length - 1 - p) h) d.rows.length d.hk
def backN (d : DesN) : DesN:=madeN (fun p h => !atN d p h) d.rows.length d.hk
def shiftN (d : DesN) (a b : Nat) : DesN:=madeN (fun p h => atN d (p + d.rows.length - a) (h + d.hk - b)) d.rows.length d.hk
def DesN.out (d : DesN) : AV:=.agg [iv (d.hk : Int),.own 1 (d.rows.map fun n : Nat => iv (n : Int))]
end Go.Abs
set_option linter.all false
namespace Go.Abs
set_option maxRecDepth 10000
set_option maxHeartbeats 4000000
abbrev WordB:=Fin 65536
def wordsV (l : List WordB) : List AV:=l.map fun r=>.int .u16 (r.1 : Int)
@[go_sem] theorem words_plain (l : List WordB) : (wordsV l).all AV.plain = true:=by
 simp [wordsV,AV.plain,AV.plain1]
@[simp] theorem words_len (l : List WordB) : (wordsV l).length = l.length:=by simp [wordsV]
def wsrc (l : List WordB) (i : Nat) : Nat:=(l[i]?.map fun r=>r.1).getD 1
def pubN (v : Nat) (l : List WordB) : DesN:=⟨2 + v % 7,(List.range (max 1 (min l.length 12))).map fun i=>wsrc l i % 2 ^ (2 + v % 7)⟩
theorem pub_ok (v : Nat) (l : List WordB) : (pubN v l).Ok where
 h1:=by unfold pubN; dsimp only; omega
 h24:=by unfold pubN; dsimp only; omega
 r1:=by simp [pubN]; omega
 r60:=by simp [pubN]; omega
 lt:=fun r hr => by
  obtain ⟨q,_,rfl⟩:=List.mem_map.1 hr;exact Nat.mod_lt _ (Nat.pow_pos (by omega))
theorem pub_hk (v : Nat) (l : List WordB) : 2≤(pubN v l).hk∧(pubN v l).hk≤8:=by unfold pubN; dsimp only; omega
theorem pub_rows (v : Nat) (l : List WordB) : 1≤(pubN v l).rows.length∧(pubN v l).rows.length≤12:=by simp [pubN]; omega
theorem wsrc_lt (l : List WordB) (i : Nat) : wsrc l i < 65536:=by
 unfold wsrc;cases h : l[i]? with
 | none => simp
 | some r => exact r.2
theorem pubDesign_ok (v : Nat) (hv : v < 256) (l : List WordB) : lim F 25 [.int .u8 (v : Int),.list 1 (wordsV l)] = some (.agg [iv ((pubN v l).hk : Int),.own 1 (natsV (pubN v l).rows)],[]):=by
 have e0 : Int.tmod (v : Int) 7 = ((v % 7 : Nat) : Int):=by rw [Int.tmod_eq_emod_of_nonneg (Int.natCast_nonneg _)]; rfl
 have hml:=Nat.mod_lt v (show 0 < 7 by omega)
 have hlen : (wordsV l).length = l.length:=by simp
 have hg : ∀ i (h : i < l.length),(wordsV l)[i]? = some (.int .u16 (wsrc l i : Int)):=fun i h => by
  unfold wsrc wordsV;rw [List.getElem?_map,List.getElem?_eq_getElem h]; rfl
 have hno : ∀ i,¬ i < l.length → wsrc l i = 1:=fun i h => by
  unfold wsrc;rw [List.getElem?_eq_none (by omega)]; rfl
 unfold pubN;dsimp only;have hhk : ((2 + v % 7 : Nat) : Int) = 2 + ((v % 7 : Nat) : Int):=by omega
 have hk8 : 2 + v % 7≤8:=by omega
 have u1 : IntKind.wrap .u64 (((2 + v % 7 : Nat) : Int)) = ((2 + v % 7 : Nat) : Int):=wrap_u64 (by omega) (by omega)
 generalize v % 7 = q at *;generalize hH : 2 + q = H at *;have s1:=w_shl1 H (by omega)
 have p1 : 2 ^ H≤2 ^ 8:=Nat.pow_le_pow_right (by omega) (by omega)
 have p2 : 0 < 2 ^ H:=Nat.pow_pos (by omega)
 have hstep : ∀ n,natsV ((List.range (n + 1)).map fun i=>wsrc l i % 2 ^ H) = natsV ((List.range n).map fun i=>wsrc l i % 2 ^ H) ++ [iv ((wsrc l n % 2 ^ H : Nat) : Int)]:=fun n=>by
  unfold natsV;rw [List.range_succ,List.map_append,List.map_append]; rfl
 have hnl : ∀ n,(natsV ((List.range n).map fun i=>wsrc l i % 2 ^ H)).length = n:=fun n=>by simp
 have hpl : ∀ n,(natsV ((List.range n).map fun i=>wsrc l i % 2 ^ H)).all AV.plain = true:=fun n=>nat_plain _
 generalize wordsV l = es at *;refine Yr (fn:=a25) (k:=2) (res:=[.cell 4 2 true]) rfl rfl rfl (by simp -implicitDefEqProofs(maxSteps:=9^7)(disch:=first|exact Yo rfl|omega|(simp only[go_sem]<;>omega)|fail)only[go_sem]) ?_
 try delta mvA
 try delta opA
 try delta tA
 simp -implicitDefEqProofs(maxSteps:=9^7)(disch:=first|exact Yo rfl|omega|(simp only[go_sem]<;>omega)|fail)only[go_sem]
 repeat(first|apply Ya|apply Yb|apply Yc|((first|apply Yd|apply Ye|apply Yf|apply Yg|apply Yh);simp -implicitDefEqProofs(maxSteps:=9^7)(disch:=first|exact Yo rfl|omega|(simp only[go_sem]<;>omega)|fail)only[go_sem,e0,← hhk]<;>try with_reducible rfl)|apply Yi|apply Yj|apply Yk|apply Yl|apply Ym|apply Yn)
 generalize hN : max 1 (min l.length 12) = N at *;apply Yt N (fun i=>⟨[(1,.list 1 es),(4,.ptr 256 0 0),(5,.ptr 320 0 0),(6,iv (i : Int))],[(256,.box [iv 0,.slice 304097 0 0]),(320,.box [iv (H : Int),.slice 305121 0 i]),(304097,.arr 1 []),(305121,.arr 1 (natsV ((List.range i).map fun i=>wsrc l i % 2 ^ H)))],[],10000000⟩) (fun _=>True)
 ·simp -implicitDefEqProofs(maxSteps:=9^7)(disch:=first|exact Yo rfl|omega|(simp only[go_sem]<;>omega)|fail)only[go_sem,norm_eq,Ok.some]
  rfl
 ·trivial
 intro i hi _;have n1:=hnl i;have P1:=hpl i;have t1 : (natsV ((List.range i).map fun i=>wsrc l i % 2 ^ H)).take i = natsV ((List.range i).map fun i=>wsrc l i % 2 ^ H):=List.take_of_length_le (by omega)
 by_cases h' : i < N
 ·rw [hstep i]
  have hcond : (i : Int) = 0 ∨ (¬ (i : Int) = 0∧(i : Int) < l.length∧(i : Int) < 12):=by omega
  by_cases hl : i < l.length
  ·have a1:=hg i hl
   have w1:=wsrc_lt l i;have e1 : Int.tmod ((wsrc l i : Nat) : Int) ((2 ^ H : Nat) : Int) = ((wsrc l i % 2 ^ H : Nat) : Int):=by rw [Int.tmod_eq_emod_of_nonneg (Int.natCast_nonneg _)]; rfl
   have e2 : wsrc l i % 2 ^ H < 2 ^ H:=Nat.mod_lt _ p2;clear hstep hnl hpl hg hno;generalize natsV ((List.range i).map fun i=>wsrc l i % 2 ^ H) = L at *
   generalize wsrc l i % 2 ^ H = r at *;generalize wsrc l i = x at *;generalize 2 ^ H = pk at *;rcases hcond with h0 | ⟨h0,h1,h2⟩
   ·have h0':=eq_true h0
    clear h0;repeat(first|apply Ya|apply Yb|apply Yc|((first|apply Yd|apply Ye|apply Yf|apply Yg|apply Yh);simp -implicitDefEqProofs(maxSteps:=9^7)(disch:=first|exact Yo rfl|omega|(simp only[go_sem]<;>omega)|fail)only[go_sem,h0',hl,Int.ofNat_lt,hlen,a1,e1,u1,s1,Int.toNat_natCast,n1,decide_true,decide_false,show ¬ (pk : Int) = 0 by omega]<;>try with_reducible rfl)|apply Yi|apply Yj|apply Yk|apply Yl|apply Ym|apply Yn)
    apply Ys
    ·simp -implicitDefEqProofs(maxSteps:=9^7)(disch:=first|exact Yo rfl|omega|(simp only[go_sem]<;>omega)|fail)only[go_sem,norm_eq,Ok.some]; with_reducible rfl
    exact ⟨h',by simp,trivial⟩
   ·repeat(first|apply Ya|apply Yb|apply Yc|((first|apply Yd|apply Ye|apply Yf|apply Yg|apply Yh);simp -implicitDefEqProofs(maxSteps:=9^7)(disch:=first|exact Yo rfl|omega|(simp only[go_sem]<;>omega)|fail)only[go_sem,h0,h1,h2,hl,Int.ofNat_lt,hlen,a1,e1,u1,s1,Int.toNat_natCast,n1,decide_true,decide_false,show ¬ (pk : Int) = 0 by omega]<;>try with_reducible rfl)|apply Yi|apply Yj|apply Yk|apply Yl|apply Ym|apply Yn)
    apply Ys
    ·simp -implicitDefEqProofs(maxSteps:=9^7)(disch:=first|exact Yo rfl|omega|(simp only[go_sem]<;>omega)|fail)only[go_sem,norm_eq,Ok.some]; with_reducible rfl
    exact ⟨h',by simp,trivial⟩
  ·have hi0 : i = 0:=by omega
   have e1 : wsrc l i % 2 ^ H = 1:=by
    rw [hno i hl];apply Nat.mod_eq_of_lt;have : 2 ^ 1 < 2 ^ H:=Nat.pow_lt_pow_right (by omega) (by omega)
    omega
   rw [e1];subst hi0;have h0' : (((0 : Nat) : Int) = 0) = True:=eq_true rfl;repeat(first|apply Ya|apply Yb|apply Yc|((first|apply Yd|apply Ye|apply Yf|apply Yg|apply Yh);simp -implicitDefEqProofs(maxSteps:=9^7)(disch:=first|exact Yo rfl|omega|(simp only[go_sem]<;>omega)|fail)only[go_sem,h0',hl,Int.ofNat_lt,hlen,n1,decide_true,decide_false]<;>try with_reducible rfl)|apply Yi|apply Yj|apply Yk|apply Yl|apply Ym|apply Yn)
   apply Ys
   ·simp -implicitDefEqProofs(maxSteps:=9^7)(disch:=first|exact Yo rfl|omega|(simp only[go_sem]<;>omega)|fail)only[go_sem,norm_eq,Ok.some]; with_reducible rfl
   exact ⟨h',by simp,trivial⟩
 ·obtain rfl : i = N:=by omega
  have h0 : ¬ (i : Int) = 0:=by omega
  clear hstep hnl hpl hg hno;generalize natsV ((List.range i).map fun i=>wsrc l i % 2 ^ H) = L at *
  by_cases hl : (i : Int) < l.length
  ·repeat(first|apply Ya|apply Yb|apply Yc|((first|apply Yd|apply Ye|apply Yf|apply Yg|apply Yh);simp -implicitDefEqProofs(maxSteps:=9^7)(disch:=first|exact Yo rfl|omega|(simp only[go_sem]<;>omega)|fail)only[go_sem,h0,hl,hlen,n1,P1,t1,decide_true,decide_false,show ¬ (i : Int) < 12 by omega]<;>try with_reducible rfl)|apply Yi|apply Yj|apply Yk|apply Yl|apply Ym|apply Yn)
  ·repeat(first|apply Ya|apply Yb|apply Yc|((first|apply Yd|apply Ye|apply Yf|apply Yg|apply Yh);simp -implicitDefEqProofs(maxSteps:=9^7)(disch:=first|exact Yo rfl|omega|(simp only[go_sem]<;>omega)|fail)only[go_sem,h0,hl,hlen,n1,P1,t1,decide_true,decide_false]<;>try with_reducible rfl)|apply Yi|apply Yj|apply Yk|apply Yl|apply Ym|apply Yn)
end Go.Abs
