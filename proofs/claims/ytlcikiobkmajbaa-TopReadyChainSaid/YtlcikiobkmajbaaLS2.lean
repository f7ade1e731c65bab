/-
 Several texts: U2, LS1, LS2.
-/
import Derived.Test.YtlcikiobkmajbaaG6
import Derived.Test.YtlcikiobkmajbaaU1
import Derived.Test.YtlcikiobkmajbaaFlat
import Derived.Test.YtlcikiobkmajbaaLC2
set_option linter.all false
namespace Go.Abs
set_option maxRecDepth 10000
set_option maxHeartbeats 2000000
open Go.Abs.Beam (TakeA PairT checkT longT longR nT dT tmod_nat tdiv_nat)
def pubT (a b c d : Nat) : TakeA:=⟨20 + (a % 81 : Nat),1 + (b % 5 : Nat),[⟨10 + (c % 91 : Nat),10 + (d % 91 : Nat)⟩],100000 + 1000 * (a : Int)⟩
end Go.Abs
set_option linter.all false
namespace Go.Abs
set_option maxRecDepth 10000
set_option maxHeartbeats 8000000
open Go.Abs.Lo (OrdA MillA)
abbrev TriB:=Fin 256 × Fin 256 × Fin 256
def triV (x : TriB) : AV:=.agg [.int .u8 (x.1.1 : Int),.int .u8 (x.2.1.1 : Int),.int .u8 (x.2.2.1 : Int)]
def trisV (l : List TriB) : List AV:=l.map triV
def shedO (x : TriB) (day ch : Int) : OrdA:=⟨1 + (x.1.1 % 10 : Nat),(x.2.1.1 % 3 : Nat),1 + (x.2.2.1 % 12 : Nat),0,day + (1 + (x.2.2.1 % 12 : Nat) + ch) + (x.2.1.1 / 3 % 9 : Nat)⟩
def shedD (l : List TriB) (ch : Int) : Nat → Int
 | 0 => 0
 | k + 1 => shedD l ch k + (1 + ((l.getD k (0,0,0)).2.2.1 % 12 : Nat) + ch)
def shedL (l : List TriB) (ch : Int) (k : Nat) : List OrdA:=(List.range k).map fun i=>shedO (l.getD i (0,0,0)) (shedD l ch i) ch
def shedM (looms change : Nat) (l : List TriB) : MillA:=⟨List.replicate (looms % 3 + 1) 10,(change % 4 : Nat),shedL l (change % 4 : Nat) (min l.length 6)⟩
theorem tris_len (l : List TriB) : (trisV l).length = l.length:=by simp [trisV]
theorem tris_get {l : List TriB} {i : Nat} (h : i < l.length) : (trisV l)[i]? = some (triV (l.getD i (0,0,0))):=by
 unfold trisV;rw [List.getElem?_map,List.getElem?_eq_getElem h,List.getD_eq_getElem?_getD,List.getElem?_eq_getElem h]; rfl
theorem shedL_len (l : List TriB) (ch : Int) (k : Nat) : (shedL l ch k).length = k:=by simp [shedL]
theorem shedV_succ (l : List TriB) (ch : Int) (k : Nat) : (shedL l ch (k + 1)).map ordV = (shedL l ch k).map ordV ++ [ordV (shedO (l.getD k (0,0,0)) (shedD l ch k) ch)]:=by
 unfold shedL;rw [List.range_succ,List.map_append,List.map_append]; rfl
theorem shedD_in (l : List TriB) (ch : Int) (h : 0≤ch∧ch≤3) : ∀ k : Nat,0≤shedD l ch k∧shedD l ch k≤15 * k
 | 0 => by simp [shedD]
 | k + 1 => by
  have:=shedD_in l ch h k;have:=Nat.mod_lt (l.getD k (0,0,0)).2.2.1 (show 0 < 12 by omega)
  unfold shedD;omega
theorem pubShed_ok (looms change : Nat) (h1 : looms < 256) (h2 : change < 256) (l : List TriB) : lim F 7 [.int .u8 (looms : Int),.int .u8 (change : Int),.list 3 (trisV l)] = some (.tuple [.agg [.own 1 (widV (shedM looms change l)),iv (shedM looms change l).ch],.own 5 (ordsV (shedM looms change l))],[]):=by
 have e4 : Int.tmod (change : Int) 4 = ((change % 4 : Nat) : Int):=by rw [Int.tmod_eq_emod_of_nonneg (Int.natCast_nonneg _)]; rfl
 have e3 : Int.tmod (looms : Int) 3 = ((looms % 3 : Nat) : Int):=by rw [Int.tmod_eq_emod_of_nonneg (Int.natCast_nonneg _)]; rfl
 have m4:=Nat.mod_lt change (show 0 < 4 by omega)
 have m3:=Nat.mod_lt looms (show 0 < 3 by omega)
 have lt:=tris_len l;have hg:=fun i (hi : i < l.length) => tris_get hi
 have hst:=shedV_succ l (change % 4 : Nat);have hD:=shedD_in l (change % 4 : Nat) (by omega)
 have hsl:=fun k=>shedL_len l (change % 4 : Nat) k
 have eW : widV (shedM looms change l) = List.replicate (looms % 3 + 1) (iv 10):=by unfold widV shedM; rw [List.map_replicate]
 have eO : ordsV (shedM looms change l) = (shedL l (change % 4 : Nat) (min l.length 6)).map ordV:=rfl;have eC : (shedM looms change l).ch = (change % 4 : Nat):=rfl;rw [eW,eO,eC];unfold triV at hg;generalize trisV l = LV at *;generalize change % 4 = ch at *;generalize looms % 3 = lm at *;refine Yr (fn:=a7) (k:=3) (res:=[.cell 6 2 true,.tmp 7]) rfl rfl rfl (by simp -implicitDefEqProofs(maxSteps:=9^7)(disch:=first|exact Yo rfl|omega|(simp only[go_sem]<;>omega)|fail)only[go_sem]) ?_
 try delta mvA
 try delta opA
 try delta tA
 simp -implicitDefEqProofs(maxSteps:=9^7)(disch:=first|exact Yo rfl|omega|(simp only[go_sem]<;>omega)|fail)only[go_sem]
 repeat(first|apply Ya|apply Yb|apply Yc|((first|apply Yd|apply Ye|apply Yf|apply Yg|apply Yh);simp -implicitDefEqProofs(maxSteps:=9^7)(disch:=first|exact Yo rfl|omega|(simp only[go_sem]<;>omega)|fail)only[go_sem,e4]<;>try with_reducible rfl)|apply Yi|apply Yj|apply Yk|apply Yl|apply Ym|apply Yn)
 apply Yt (lm + 1) (fun i=>⟨[(0,.int .u8 (looms : Int)),(2,.list 3 LV),(6,.ptr 384 0 0),(8,.ptr 512 0 0),(9,.slice 576 0 0),(10,iv 0),(11,iv (i : Int))],[(384,.box [.slice 306144 0 0,iv 0]),(512,.box [.slice 308192 0 i,iv (ch : Int)]),(576,.arr 5 []),(306144,.arr 1 []),(308192,.arr 1 (List.replicate i (iv 10)))],[],10000000⟩) (fun _=>True)
 ·simp -implicitDefEqProofs(maxSteps:=9^7)(disch:=first|exact Yo rfl|omega|(simp only[go_sem]<;>omega)|fail)only[go_sem,norm_eq,Ok.some]
  rfl
 ·trivial
 intro i hi _;by_cases h' : i≤lm
 ·have t1 : (List.replicate i (iv 10)).take i = List.replicate i (iv 10):=List.take_of_length_le (by simp)
  have n1 : (List.replicate i (iv 10)).length = i:=by simp
  have r1 : List.replicate (i + 1) (iv 10) = List.replicate i (iv 10) ++ [iv 10]:=List.replicate_succ';rw [r1];generalize List.replicate i (iv 10) = R at *;repeat(first|apply Ya|apply Yb|apply Yc|((first|apply Yd|apply Ye|apply Yf|apply Yg|apply Yh);simp -implicitDefEqProofs(maxSteps:=9^7)(disch:=first|exact Yo rfl|omega|(simp only[go_sem]<;>omega)|fail)only[go_sem,e3,t1,n1,show (i : Int)≤(lm : Int) by omega]<;>try with_reducible rfl)|apply Yi|apply Yj|apply Yk|apply Yl|apply Ym|apply Yn)
  apply Ys
  ·simp -implicitDefEqProofs(maxSteps:=9^7)(disch:=first|exact Yo rfl|omega|(simp only[go_sem]<;>omega)|fail)only[go_sem,norm_eq,Ok.some]; with_reducible rfl
  exact ⟨by omega,by simp,trivial⟩
 ·obtain rfl : i = lm + 1:=by omega
  have W1 : (List.replicate (lm + 1) (iv 10)).take (lm + 1) = List.replicate (lm + 1) (iv 10):=List.take_of_length_le (by simp)
  have W2 : (List.replicate (lm + 1) (iv 10)).length = lm + 1:=by simp
  have W3 : (List.replicate (lm + 1) (iv 10)).all AV.plain = true:=by
   rw [List.all_eq_true];intro x hx;rw [List.eq_of_mem_replicate hx]; rfl
  generalize List.replicate (lm + 1) (iv 10) = WV at *;repeat(first|apply Ya|apply Yb|apply Yc|((first|apply Yd|apply Ye|apply Yf|apply Yg|apply Yh);simp -implicitDefEqProofs(maxSteps:=9^7)(disch:=first|exact Yo rfl|omega|(simp only[go_sem]<;>omega)|fail)only[go_sem,e3,show ¬ ((lm + 1 : Nat) : Int)≤(lm : Int) by omega]<;>try with_reducible rfl)|apply Yi|apply Yj|apply Yk|apply Yl|apply Ym|apply Yn)
  apply Yt (min l.length 6) (fun i=>⟨[(2,.list 3 LV),(6,.ptr 384 0 0),(8,.ptr 512 0 0),(9,.slice 576 0 i),(10,iv (shedD l (ch : Nat) i)),(12,iv (i : Int))],[(384,.box [.slice 306144 0 0,iv 0]),(512,.box [.slice 308192 0 (lm + 1),iv (ch : Int)]),(576,.arr 5 ((shedL l (ch : Nat) i).map ordV)),(306144,.arr 1 []),(308192,.arr 1 WV)],[],10000000⟩) (fun _=>True)
  ·simp -implicitDefEqProofs(maxSteps:=9^7)(disch:=first|exact Yo rfl|omega|(simp only[go_sem]<;>omega)|fail)only[go_sem,norm_eq,Ok.some]
   rfl
  ·trivial
  intro i hi _;have o1 : ((shedL l (ch : Nat) i).map ordV).length = i:=by simp [shedL]
  have o2 : ((shedL l (ch : Nat) i).map ordV).take i = (shedL l (ch : Nat) i).map ordV:=List.take_of_length_le (by omega)
  have o3 : ((shedL l (ch : Nat) i).map ordV).all AV.plain = true:=by
   rw [List.all_eq_true];intro x hx;obtain ⟨y,-,rfl⟩:=List.mem_map.1 hx;rfl
  by_cases h' : i < min l.length 6
  ·have g1:=hg i (by omega)
   have s1:=hst i;have d1:=hD i;have dS : shedD l (ch : Nat) (i + 1) = shedD l (ch : Nat) i + (1 + ((l.getD i (0,0,0)).2.2.1 % 12 : Nat) + (ch : Nat)):=rfl;rw [dS,s1];generalize (shedL l (ch : Nat) i).map ordV = OV at *;unfold ordV shedO;have b1:=(l.getD i (0,0,0)).1.2;have b2:=(l.getD i (0,0,0)).2.1.2;have b3:=(l.getD i (0,0,0)).2.2.2;generalize (l.getD i (0,0,0)).1.1 = x1 at *;generalize (l.getD i (0,0,0)).2.1.1 = x2 at *;generalize (l.getD i (0,0,0)).2.2.1 = x3 at *;generalize shedD l (ch : Nat) i = day at *;have e1 : Int.tmod (x1 : Int) 10 = ((x1 % 10 : Nat) : Int):=by rw [Int.tmod_eq_emod_of_nonneg (Int.natCast_nonneg _)]; rfl
   have e2 : Int.tmod (x2 : Int) 3 = ((x2 % 3 : Nat) : Int):=by rw [Int.tmod_eq_emod_of_nonneg (Int.natCast_nonneg _)]; rfl
   have e5 : Int.tmod (x3 : Int) 12 = ((x3 % 12 : Nat) : Int):=by rw [Int.tmod_eq_emod_of_nonneg (Int.natCast_nonneg _)]; rfl
   have e6 : Int.tdiv (x2 : Int) 3 = ((x2 / 3 : Nat) : Int):=by rw [Int.tdiv_eq_ediv_of_nonneg (Int.natCast_nonneg _)]; rfl
   have e7 : Int.tmod ((x2 / 3 : Nat) : Int) 9 = ((x2 / 3 % 9 : Nat) : Int):=by rw [Int.tmod_eq_emod_of_nonneg (Int.natCast_nonneg _)]; rfl
   have q1:=Nat.mod_lt x1 (show 0 < 10 by omega)
   have q2:=Nat.mod_lt x2 (show 0 < 3 by omega)
   have q3:=Nat.mod_lt x3 (show 0 < 12 by omega)
   have q4:=Nat.mod_lt (x2 / 3) (show 0 < 9 by omega)
   have q5 : x2 / 3≤255:=by omega
   generalize x2 / 3 % 9 = y4 at *;generalize x2 / 3 = y5 at *;generalize x1 % 10 = y1 at *;generalize x2 % 3 = y2 at *;generalize x3 % 12 = y3 at *;repeat(first|apply Ya|apply Yb|apply Yc|((first|apply Yd|apply Ye|apply Yf|apply Yg|apply Yh);simp -implicitDefEqProofs(maxSteps:=9^7)(disch:=first|exact Yo rfl|omega|(simp only[go_sem]<;>omega)|fail)only[go_sem,lt,show i < l.length by omega,show i < 6 by omega,show (i : Int) < 6 by omega,Int.ofNat_lt,g1,e1,e2,e5,e6,e7,o1,o2,Int.toNat_natCast]<;>try with_reducible rfl)|apply Yi|apply Yj|apply Yk|apply Yl|apply Ym|apply Yn)
   apply Ys
   ·simp -implicitDefEqProofs(maxSteps:=9^7)(disch:=first|exact Yo rfl|omega|(simp only[go_sem]<;>omega)|fail)only[go_sem,norm_eq,Ok.some]; with_reducible rfl
   exact ⟨h',by simp,trivial⟩
  ·obtain rfl : i = min l.length 6:=by omega
   generalize hOV : (shedL l (ch : Nat) (min l.length 6)).map ordV = OV at *;by_cases c1 : min l.length 6 < l.length
   ·repeat(first|apply Ya|apply Yb|apply Yc|((first|apply Yd|apply Ye|apply Yf|apply Yg|apply Yh);simp -implicitDefEqProofs(maxSteps:=9^7)(disch:=first|exact Yo rfl|omega|(simp only[go_sem]<;>omega)|fail)only[go_sem,lt,Int.ofNat_lt,c1,show ¬ (min l.length 6 : Nat) < (6 : Nat) by omega,show ¬ ((min l.length 6 : Nat) : Int) < 6 by omega,W1,W2,W3,o1,o2,o3]<;>try with_reducible rfl)|apply Yi|apply Yj|apply Yk|apply Yl|apply Ym|apply Yn)
   ·repeat(first|apply Ya|apply Yb|apply Yc|((first|apply Yd|apply Ye|apply Yf|apply Yg|apply Yh);simp -implicitDefEqProofs(maxSteps:=9^7)(disch:=first|exact Yo rfl|omega|(simp only[go_sem]<;>omega)|fail)only[go_sem,lt,Int.ofNat_lt,c1,W1,W2,W3,o1,o2,o3]<;>try with_reducible rfl)|apply Yi|apply Yj|apply Yk|apply Yl|apply Ym|apply Yn)
end Go.Abs
set_option linter.all false
namespace Go.Abs
set_option maxRecDepth 10000
set_option maxHeartbeats 8000000
open Go.Abs.Lo (OrdA MillA Tog loomsR InRow sumD)
theorem shedM_o (looms change : Nat) (l : List TriB) {i : Nat} (h : i < min l.length 6) : (shedM looms change l).o i = shedO (l.getD i (0,0,0)) (shedD l (change % 4 : Nat) i) (change % 4 : Nat):=by
 unfold MillA.o shedM shedL;dsimp only;rw [List.getD_eq_getElem?_getD,List.getElem?_map,List.getElem?_range h]; rfl
theorem shedM_n (looms change : Nat) (l : List TriB) : (shedM looms change l).os.length = min l.length 6:=shedL_len _ _ _
theorem shedM_ok (looms change : Nat) (l : List TriB) : (shedM looms change l).Ok where
 l1:=by simp only [shedM,List.length_replicate]; have:=Nat.mod_lt looms (show 0 < 3 by omega); omega
 w1:=fun w hw => by
  have:=List.eq_of_mem_replicate hw;omega
 ch1:=by simp only [shedM]; have:=Nat.mod_lt change (show 0 < 4 by omega); omega
 n6:=by rw [shedM_n]; omega
 os1:=fun x hx => by
  unfold shedM shedL at hx;obtain ⟨i,hi,rfl⟩:=List.mem_map.1 hx;have hi:=List.mem_range.1 hi;have m4:=Nat.mod_lt change (show 0 < 4 by omega)
  have hd:=shedD_in l (change % 4 : Nat) (by omega) i
  unfold shedO;generalize l.getD i (0,0,0) = y at *;generalize shedD l (change % 4 : Nat) i = day at *;have q1:=Nat.mod_lt y.1.1 (show 0 < 10 by omega)
  have q2:=Nat.mod_lt y.2.1.1 (show 0 < 3 by omega)
  have q3:=Nat.mod_lt y.2.2.1 (show 0 < 12 by omega)
  have q4:=Nat.mod_lt (y.2.1.1 / 3) (show 0 < 9 by omega)
  exact ⟨by dsimp only; omega,by dsimp only; omega,by dsimp only; omega,by dsimp only; omega,by dsimp only; omega⟩
theorem shedM_sum (looms change : Nat) (l : List TriB) : ∀ k,k≤min l.length 6 → sumD (shedM looms change l) k = shedD l (change % 4 : Nat) k
 | 0,_ => rfl
 | k + 1,h => by
  unfold sumD shedD;rw [shedM_sum looms change l k (by omega),shedM_o looms change l (by omega)]
  unfold shedO;dsimp only [shedM];omega
theorem shedM_row (looms change : Nat) (l : List TriB) : InRow (shedM looms change l) where
 ok:=shedM_ok looms change l
 w:=fun i hi => by
  rw [shedM_n] at hi;rw [shedM_o looms change l hi];have q1:=Nat.mod_lt (l.getD i (0,0,0)).1.1 (show 0 < 10 by omega)
  have e : (shedM looms change l).wd 0 = 10:=rfl;rw [e];unfold shedO;dsimp only;omega
 e:=fun i hi => by
  rw [shedM_n] at hi;rw [shedM_o looms change l hi]; rfl
 t:=fun i hi => by
  rw [shedM_n] at hi;rw [shedM_sum looms change l (i + 1) (by omega),shedM_o looms change l hi]
  unfold shedO;dsimp only;rw [shedD];omega
theorem pubOrders_ok (es : List AV) (hp : es.all AV.plain = true) (h : es.length≤1000) : lim F 13 [.list 5 es] = some (.own 5 es,[]):=by
 have htk : es.take es.length = es:=List.take_of_length_le (by omega)
 refine Yr (fn:=a13) (k:=1) (res:=[.tmp 2]) rfl rfl rfl (by simp -implicitDefEqProofs(maxSteps:=9^7)(disch:=first|exact Yo rfl|omega|(simp only[go_sem]<;>omega)|fail)only[go_sem]) ?_
 try delta mvA
 try delta opA
 try delta tA
 simp -implicitDefEqProofs(maxSteps:=9^7)(disch:=first|exact Yo rfl|omega|(simp only[go_sem]<;>omega)|fail)only[go_sem]
 repeat(first|apply Ya|apply Yb|apply Yc|((first|apply Yd|apply Ye|apply Yf|apply Yg|apply Yh);simp -implicitDefEqProofs(maxSteps:=9^7)(disch:=first|exact Yo rfl|omega|(simp only[go_sem]<;>omega)|fail)only[go_sem,htk,hp]<;>try with_reducible rfl)|apply Yi|apply Yj|apply Yk|apply Yl|apply Ym|apply Yn)
theorem pubWidths_ok (es : List AV) (c : Int) (hp : es.all AV.plain = true) (h : es.length≤1000) : lim F 12 [.agg [.list 1 es,iv c]] = some (.agg [.own 1 es,iv c],[]):=by
 have htk : es.take es.length = es:=List.take_of_length_le (by omega)
 refine Yr (fn:=a12) (k:=1) (res:=[.cell 2 2 true]) rfl rfl rfl (by simp -implicitDefEqProofs(maxSteps:=9^7)(disch:=first|exact Yo rfl|omega|(simp only[go_sem]<;>omega)|fail)only[go_sem]) ?_
 try delta mvA
 try delta opA
 try delta tA
 simp -implicitDefEqProofs(maxSteps:=9^7)(disch:=first|exact Yo rfl|omega|(simp only[go_sem]<;>omega)|fail)only[go_sem]
 repeat(first|apply Ya|apply Yb|apply Yc|((first|apply Yd|apply Ye|apply Yf|apply Yg|apply Yh);simp -implicitDefEqProofs(maxSteps:=9^7)(disch:=first|exact Yo rfl|omega|(simp only[go_sem]<;>omega)|fail)only[go_sem,htk,hp]<;>try with_reducible rfl)|apply Yi|apply Yj|apply Yk|apply Yl|apply Ym|apply Yn)
theorem ords_plain (m : MillA) : (ordsV m).all AV.plain = true:=by
 rw [List.all_eq_true];intro x hx;obtain ⟨y,-,rfl⟩:=List.mem_map.1 hx;rfl
theorem wid_plain (m : MillA) : (widV m).all AV.plain = true:=by
 rw [List.all_eq_true];intro x hx;obtain ⟨y,-,rfl⟩:=List.mem_map.1 hx;rfl
end Go.Abs
