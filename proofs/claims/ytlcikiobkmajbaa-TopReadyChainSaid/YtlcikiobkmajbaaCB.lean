/-
 Several texts: CA, CB.
-/
import Derived.Test.YtlcikiobkmajbaaP1
import Derived.Test.YtlcikiobkmajbaaV0
set_option linter.all false
namespace Go.Abs
set_option maxRecDepth 10000
set_option maxHeartbeats 2000000
structure CardN where
 num : Nat
 row : Nat
 turned : Bool
def CardN.av (c : CardN) : AV:=.agg [iv (c.num : Int),iv (c.row : Int),.bool c.turned]
@[go_sem] theorem card_plain (l : List CardN) : (l.map CardN.av).all AV.plain = true:=by
 simp [CardN.av,AV.plain,AV.plain1]
structure BeltN where
 hk : Nat
 cards : List CardN
def BeltN.av (b : BeltN) : AV:=.agg [iv (b.hk : Int),.list 3 (b.cards.map CardN.av)]
structure BeltN.Ok (b : BeltN) : Prop where
 h1 : 1≤b.hk
 h24 : b.hk≤24
 c1 : 1≤b.cards.length
 c60 : b.cards.length≤60
 lt : ∀ c ∈ b.cards,c.num≤59∧c.row < 2 ^ b.hk
theorem cwithin1_ok (lo hi n : Int) : lim F 127 [iv n,.iptr (.agg [iv lo]) 0,.iptr (.agg [iv hi]) 0] = some (.bool (decide (n < lo ∨ hi < n)),[]):=by
 by_cases h1 : n < lo <;> by_cases h2 : hi < n
 all_goals
  refine Yr (fn:=a127) (k:=3) (res:=[.tmp 4]) rfl rfl rfl (by simp -implicitDefEqProofs(maxSteps:=9^7)(disch:=first|exact Yo rfl|omega|(simp only[go_sem]<;>omega)|fail)only[go_sem]) ?_
  try delta mvA
  try delta opA
  try delta tA
  simp -implicitDefEqProofs(maxSteps:=9^7)(disch:=first|exact Yo rfl|omega|(simp only[go_sem]<;>omega)|fail)only[go_sem]
  repeat(first|apply Ya|apply Yb|apply Yc|((first|apply Yd|apply Ye|apply Yf|apply Yg|apply Yh);simp -implicitDefEqProofs(maxSteps:=9^7)(disch:=first|exact Yo rfl|omega|(simp only[go_sem]<;>omega)|fail)only[go_sem,h1,h2]<;>try with_reducible rfl)|apply Yi|apply Yj|apply Yk|apply Yl|apply Ym|apply Yn)
theorem cwithin_ok (lo hi : Int) (l : List Int) (hl : l.length < 1000000000) : lim F 94 [iv lo,iv hi,.list 1 (l.map fun n=>iv n)] = some (.bool (l.all fun n=>decide (lo≤n∧n≤hi)),[]):=by
 have h:=contains_ints l (fun n=>decide (n < lo ∨ hi < n)) 127 (.agg [iv lo]) (.agg [iv hi]) hl (fun n _ => cwithin1_ok lo hi n)
 refine Yr (fn:=a94) (k:=3) (res:=[.tmp 6]) rfl rfl rfl (by simp -implicitDefEqProofs(maxSteps:=9^7)(disch:=first|exact Yo rfl|omega|(simp only[go_sem]<;>omega)|fail)only[go_sem]) ?_
 try delta mvA
 try delta opA
 try delta tA
 simp -implicitDefEqProofs(maxSteps:=9^7)(disch:=first|exact Yo rfl|omega|(simp only[go_sem]<;>omega)|fail)only[go_sem]
 repeat(first|apply Ya|apply Yb|apply Yc|((first|apply Yd|apply Ye|apply Yf|apply Yg|apply Yh);simp -implicitDefEqProofs(maxSteps:=9^7)(disch:=first|exact Yo rfl|omega|(simp only[go_sem]<;>omega)|fail)only[go_sem,h]<;>try with_reducible rfl)|apply Yi|apply Yj|apply Yk|apply Yl|apply Ym|apply Yn)
 simp only [Option.some.injEq,Prod.mk.injEq,AV.bool.injEq,and_true];rw [List.any_eq_not_all_not,Bool.not_not]
 congr 1
 funext n;by_cases h1 : n < lo <;> by_cases h2 : hi < n <;> simp [h1,h2] <;> omega
theorem cwithin_one (lo hi n : Int) : lim F 94 [iv lo,iv hi,.list 1 [iv n]] = some (.bool (decide (lo≤n∧n≤hi)),[]):=by
 have h:=cwithin_ok lo hi [n] (by simp)
 simpa using h
theorem isValid_ok (n : Int) : lim F 56 [iv n] = some (.bool (decide (1≤n∧n≤24)),[]):=by
 have h:=cwithin_one 1 24 n;refine Yr (fn:=a56) (k:=1) (res:=[.tmp 2]) rfl rfl rfl (by simp -implicitDefEqProofs(maxSteps:=9^7)(disch:=first|exact Yo rfl|omega|(simp only[go_sem]<;>omega)|fail)only[go_sem]) ?_
 try delta mvA
 try delta opA
 try delta tA
 simp -implicitDefEqProofs(maxSteps:=9^7)(disch:=first|exact Yo rfl|omega|(simp only[go_sem]<;>omega)|fail)only[go_sem]
 repeat(first|apply Ya|apply Yb|apply Yc|((first|apply Yd|apply Ye|apply Yf|apply Yg|apply Yh);simp -implicitDefEqProofs(maxSteps:=9^7)(disch:=first|exact Yo rfl|omega|(simp only[go_sem]<;>omega)|fail)only[go_sem,h]<;>try with_reducible rfl)|apply Yi|apply Yj|apply Yk|apply Yl|apply Ym|apply Yn)
theorem areRows_ok (hk : Nat) (h24 : hk≤24) (l : List Int) (hl : l.length < 1000000000) : lim F 57 [iv (hk : Int),.list 1 (l.map fun n=>iv n)] = some (.bool (l.all fun n=>decide (0≤n∧n≤((2 ^ hk : Nat) : Int) - 1)),[]):=by
 have s1:=w_shl1 hk (by omega)
 have p1 : 2 ^ hk≤2 ^ 24:=Nat.pow_le_pow_right (by omega) (by omega)
 have p2 : 0 < 2 ^ hk:=Nat.pow_pos (by omega)
 have h:=cwithin_ok 0 (((2 ^ hk : Nat) : Int) - 1) l hl;generalize hm : 2 ^ hk = m at *;refine Yr (fn:=a57) (k:=2) (res:=[.tmp 4]) rfl rfl rfl (by simp -implicitDefEqProofs(maxSteps:=9^7)(disch:=first|exact Yo rfl|omega|(simp only[go_sem]<;>omega)|fail)only[go_sem]) ?_
 try delta mvA
 try delta opA
 try delta tA
 simp -implicitDefEqProofs(maxSteps:=9^7)(disch:=first|exact Yo rfl|omega|(simp only[go_sem]<;>omega)|fail)only[go_sem]
 repeat(first|apply Ya|apply Yb|apply Yc|((first|apply Yd|apply Ye|apply Yf|apply Yg|apply Yh);simp -implicitDefEqProofs(maxSteps:=9^7)(disch:=first|exact Yo rfl|omega|(simp only[go_sem]<;>omega)|fail)only[go_sem,h,s1,Int.toNat_natCast]<;>try with_reducible rfl)|apply Yi|apply Yj|apply Yk|apply Yl|apply Ym|apply Yn)
theorem areRows_one (hk : Nat) (h24 : hk≤24) (n : Int) : lim F 57 [iv (hk : Int),.list 1 [iv n]] = some (.bool (decide (0≤n∧n≤((2 ^ hk : Nat) : Int) - 1)),[]):=by
 have h:=areRows_ok hk h24 [n] (by simp)
 simpa using h
theorem areCards1_ok (hk : Nat) (h24 : hk≤24) (c : CardN) (hc : c.num≤59∧c.row < 2 ^ hk) : lim F 150 [c.av,.iptr (.agg [iv (hk : Int)]) 0] = some (.bool false,[]):=by
 have w1:=cwithin_one (-1) 59 (c.num : Int);have w2:=areRows_one hk h24 (c.row : Int);rw [decide_eq_true (by omega)] at w1 w2
 unfold CardN.av;generalize (c.num : Int) = a at *;generalize (c.row : Int) = r at *;generalize c.turned = t at *;refine Yr (fn:=a150) (k:=2) (res:=[.tmp 3]) rfl rfl rfl (by simp -implicitDefEqProofs(maxSteps:=9^7)(disch:=first|exact Yo rfl|omega|(simp only[go_sem]<;>omega)|fail)only[go_sem]) ?_
 try delta mvA
 try delta opA
 try delta tA
 simp -implicitDefEqProofs(maxSteps:=9^7)(disch:=first|exact Yo rfl|omega|(simp only[go_sem]<;>omega)|fail)only[go_sem]
 repeat(first|apply Ya|apply Yb|apply Yc|((first|apply Yd|apply Ye|apply Yf|apply Yg|apply Yh);simp -implicitDefEqProofs(maxSteps:=9^7)(disch:=first|exact Yo rfl|omega|(simp only[go_sem]<;>omega)|fail)only[go_sem,w1,w2]<;>try with_reducible rfl)|apply Yi|apply Yj|apply Yk|apply Yl|apply Ym|apply Yn)
theorem contains_cards (l : List CardN) (f : Nat) (x : AV) (hl : l.length < 1000000000) (hp : ∀ c ∈ l,lim F f [c.av,.iptr x 0] = some (.bool false,[])) :
  lim F 151 [.list 3 (l.map CardN.av),.func f [.iptr x 0]] = some (.bool false,[]):=by
 have h : lim F 167 [.list 3 (l.map CardN.av),.func f [.iptr x 0]] = some (iv (-1),[]):=by
  refine Yr (fn:=a167) (k:=2) (res:=[.tmp 4]) rfl rfl rfl (by simp -implicitDefEqProofs(maxSteps:=9^7)(disch:=first|exact Yo rfl|omega|(simp only[go_sem]<;>omega)|fail)only[go_sem]) ?_
  try delta mvA
  try delta opA
  try delta tA
  simp -implicitDefEqProofs(maxSteps:=9^7)(disch:=first|exact Yo rfl|omega|(simp only[go_sem]<;>omega)|fail)only[go_sem]
  repeat(first|apply Ya|apply Yb|apply Yc|((first|apply Yd|apply Ye|apply Yf|apply Yg|apply Yh);simp -implicitDefEqProofs(maxSteps:=9^7)(disch:=first|exact Yo rfl|omega|(simp only[go_sem]<;>omega)|fail)only[go_sem]<;>try with_reducible rfl)|apply Yi|apply Yj|apply Yk|apply Yl|apply Ym|apply Yn)
  apply Yt l.length (fun i=>⟨[(0,.list 3 (l.map CardN.av)),(1,.func f [.iptr x 0]),(7,iv l.length),(8,iv i)],[],[],10000000⟩) (fun _=>True)
  ·simp -implicitDefEqProofs(maxSteps:=9^7)(disch:=first|exact Yo rfl|omega|(simp only[go_sem]<;>omega)|fail)only[go_sem,norm_eq,Ok.some]
   rfl
  ·trivial
  intro i hi _;by_cases h : i < l.length
  ·have hc:=hp l[i] (List.getElem_mem h)
   unfold CardN.av at hc;repeat(first|apply Ya|apply Yb|apply Yc|((first|apply Yd|apply Ye|apply Yf|apply Yg|apply Yh);simp -implicitDefEqProofs(maxSteps:=9^7)(disch:=first|exact Yo rfl|omega|(simp only[go_sem]<;>omega)|fail)only[go_sem,CardN.av.eq_1,h,List.getElem?_map,List.getElem?_eq_getElem h,Option.map_some,hc,Int.ofNat_lt]<;>try with_reducible rfl)|apply Yi|apply Yj|apply Yk|apply Yl|apply Ym|apply Yn)
   apply Ys
   ·simp -implicitDefEqProofs(maxSteps:=9^7)(disch:=first|exact Yo rfl|omega|(simp only[go_sem]<;>omega)|fail)only[go_sem,norm_eq,Ok.some]; with_reducible rfl
   exact ⟨h,by simp,trivial⟩
  ·repeat(first|apply Ya|apply Yb|apply Yc|((first|apply Yd|apply Ye|apply Yf|apply Yg|apply Yh);simp -implicitDefEqProofs(maxSteps:=9^7)(disch:=first|exact Yo rfl|omega|(simp only[go_sem]<;>omega)|fail)only[go_sem,h,Int.ofNat_lt]<;>try with_reducible rfl)|apply Yi|apply Yj|apply Yk|apply Yl|apply Ym|apply Yn)
 refine Yr (fn:=a151) (k:=2) (res:=[.tmp 4]) rfl rfl rfl (by simp -implicitDefEqProofs(maxSteps:=9^7)(disch:=first|exact Yo rfl|omega|(simp only[go_sem]<;>omega)|fail)only[go_sem]) ?_
 try delta mvA
 try delta opA
 try delta tA
 simp -implicitDefEqProofs(maxSteps:=9^7)(disch:=first|exact Yo rfl|omega|(simp only[go_sem]<;>omega)|fail)only[go_sem]
 repeat(first|apply Ya|apply Yb|apply Yc|((first|apply Yd|apply Ye|apply Yf|apply Yg|apply Yh);simp -implicitDefEqProofs(maxSteps:=9^7)(disch:=first|exact Yo rfl|omega|(simp only[go_sem]<;>omega)|fail)only[go_sem,h]<;>try with_reducible rfl)|apply Yi|apply Yj|apply Yk|apply Yl|apply Ym|apply Yn)
theorem areCards_ok (b : BeltN) (hb : b.Ok) : lim F 128 [iv (b.hk : Int),.list 3 (b.cards.map CardN.av)] = some (.bool true,[]):=by
 have hc:=contains_cards b.cards 150 (.agg [iv (b.hk : Int)]) (by have:=hb.c60; omega) (fun c hc => areCards1_ok b.hk hb.h24 c (hb.lt c hc))
 have h1:=hb.c1;have hln : (b.cards.map CardN.av).length = b.cards.length:=by simp
 generalize b.cards.map CardN.av = es at *;refine Yr (fn:=a128) (k:=2) (res:=[.tmp 4]) rfl rfl rfl (by simp -implicitDefEqProofs(maxSteps:=9^7)(disch:=first|exact Yo rfl|omega|(simp only[go_sem]<;>omega)|fail)only[go_sem]) ?_
 try delta mvA
 try delta opA
 try delta tA
 simp -implicitDefEqProofs(maxSteps:=9^7)(disch:=first|exact Yo rfl|omega|(simp only[go_sem]<;>omega)|fail)only[go_sem]
 repeat(first|apply Ya|apply Yb|apply Yc|((first|apply Yd|apply Ye|apply Yf|apply Yg|apply Yh);simp -implicitDefEqProofs(maxSteps:=9^7)(disch:=first|exact Yo rfl|omega|(simp only[go_sem]<;>omega)|fail)only[go_sem,hc,hln,show (0 : Int) < b.cards.length by omega]<;>try with_reducible rfl)|apply Yi|apply Yj|apply Yk|apply Yl|apply Ym|apply Yn)
theorem open_ok (b : BeltN) (hb : b.Ok) : lim F 95 [b.av] = some (.tuple [.agg [iv (b.hk : Int),.list 3 (b.cards.map CardN.av),iv (b.hk : Int)],iv 0],[]):=by
 have h0:=isValid_ok (b.hk : Int);have h1:=areCards_ok b hb;have g1:=hb.h1;have g2:=hb.h24;have g3:=hb.c60;rw [decide_eq_true (by omega)] at h0
 have hln : (b.cards.map CardN.av).length = b.cards.length:=by simp
 unfold BeltN.av;generalize b.cards.map CardN.av = es at *;refine Yr (fn:=a95) (k:=1) (res:=[.cell 2 3 true,.tmp 3]) rfl rfl rfl (by simp -implicitDefEqProofs(maxSteps:=9^7)(disch:=first|exact Yo rfl|omega|(simp only[go_sem]<;>omega)|fail)only[go_sem]) ?_
 try delta mvA
 try delta opA
 try delta tA
 simp -implicitDefEqProofs(maxSteps:=9^7)(disch:=first|exact Yo rfl|omega|(simp only[go_sem]<;>omega)|fail)only[go_sem]
 repeat(first|apply Ya|apply Yb|apply Yc|((first|apply Yd|apply Ye|apply Yf|apply Yg|apply Yh);simp -implicitDefEqProofs(maxSteps:=9^7)(disch:=first|exact Yo rfl|omega|(simp only[go_sem]<;>omega)|fail)only[go_sem,h0,h1,hln,show ¬ (60 : Int) < b.cards.length by omega]<;>try with_reducible rfl)|apply Yi|apply Yj|apply Yk|apply Yl|apply Ym|apply Yn)
end Go.Abs
set_option linter.all false
namespace Go.Abs
set_option maxRecDepth 10000
set_option maxHeartbeats 2000000
def rowAt (b : BeltN) (i : Nat) : Nat:=(b.cards[i]?.map (·.row)).getD 0
def posW (n first : Nat) (steps : List Nat) : Nat → Nat
 | 0 => first
 | i + 1 => (posW n first steps i + steps[i]?.getD 0) % n
def wovenW (b : BeltN) (first : Nat) (steps : List Nat) : List Nat:=(List.range steps.length).map fun i=>rowAt b (posW b.cards.length first steps i)
def punchN (d : DesN) : BeltN:=⟨d.hk,d.rows.zipIdx.map fun p=>⟨p.2,p.1,false⟩⟩
theorem punch_len (d : DesN) : (punchN d).cards.length = d.rows.length:=by simp [punchN]
theorem punch_ok (d : DesN) (hd : d.Ok) : (punchN d).Ok where
 h1:=hd.h1
 h24:=hd.h24
 c1:=by rw [punch_len]; exact hd.r1
 c60:=by rw [punch_len]; exact hd.r60
 lt:=fun c hc => by
  obtain ⟨p,hp,rfl⟩:=List.mem_map.1 hc;obtain ⟨r,i⟩:=p;rw [List.mem_zipIdx_iff_getElem?] at hp;have:=(List.getElem?_eq_some_iff.1 hp).1;have:=hd.r60;exact ⟨by simp only; omega,hd.lt _ (List.mem_of_getElem? hp)⟩
theorem Punch_ok (d : DesN) (hd : d.Ok) : lim F 24 [d.av] = some (.tuple [.agg [iv (d.hk : Int),.own 3 ((punchN d).cards.map CardN.av)],iv 0],[]):=by
 have h0:=isValid_ok (d.hk : Int);have g1:=hd.h1;have g2:=hd.h24;have g3:=hd.r60;have g4:=hd.r1;rw [decide_eq_true (by omega)] at h0
 have h1:=areRows_ok d.hk g2 (d.rows.map fun n : Nat => (n : Int)) (by simp; omega)
 rw [List.map_map,show ((fun n : Int => iv n) ∘ fun n : Nat => (n : Int)) = fun n : Nat => iv (n : Int) from rfl,List.all_eq_true.2 (fun x hx => by
  obtain ⟨r,hr,rfl⟩:=List.mem_map.1 hx;have:=hd.lt r hr;exact decide_eq_true (by omega))] at h1
 have hl2 : (natsV d.rows).length = d.rows.length:=by simp
 have hget : ∀ i : Nat,i < d.rows.length → (natsV d.rows)[i]? = some (iv ((d.rows.getD i 0 : Nat) : Int)):=fun i h => by
  unfold natsV;rw [List.getElem?_map,List.getD_eq_getElem?_getD,List.getElem?_eq_getElem h]; rfl
 have hcl : ((punchN d).cards.map CardN.av).length = d.rows.length:=by rw [List.length_map,punch_len]
 have hstep : ∀ n : Nat,n < d.rows.length → ((punchN d).cards.map CardN.av).take (n + 1) = ((punchN d).cards.map CardN.av).take n ++ [.agg [iv (n : Int),iv ((d.rows.getD n 0 : Nat) : Int),.bool false]]:=fun n h => by
  rw [List.take_succ_eq_append_getElem (by omega)]
  congr 2
  simp [punchN,CardN.av,List.getD_eq_getElem?_getD,h]
 have hnl : ∀ n : Nat,n≤d.rows.length → (((punchN d).cards.map CardN.av).take n).length = n:=fun n h => by rw [List.length_take,hcl]; omega
 have hpl : ∀ n : Nat,(((punchN d).cards.map CardN.av).take n).all AV.plain = true:=fun n=>List.all_eq_true.2 fun x hx => List.all_eq_true.1 (card_plain (punchN d).cards) x (List.mem_of_mem_take hx)
 have hall : ((punchN d).cards.map CardN.av).take d.rows.length = (punchN d).cards.map CardN.av:=List.take_of_length_le (by omega)
 unfold DesN.av;change lim F _ [_,.list 1 (natsV d.rows)] = _ at h1;change lim F _ [.agg [_,.list 1 (natsV d.rows)]] = _;rw [← hall];generalize (punchN d).cards.map CardN.av = cs at *;generalize natsV d.rows = sv at *;refine Yr (fn:=a24) (k:=1) (res:=[.cell 2 2 true,.tmp 3]) rfl rfl rfl (by simp -implicitDefEqProofs(maxSteps:=9^7)(disch:=first|exact Yo rfl|omega|(simp only[go_sem]<;>omega)|fail)only[go_sem]) ?_
 try delta mvA
 try delta opA
 try delta tA
 simp -implicitDefEqProofs(maxSteps:=9^7)(disch:=first|exact Yo rfl|omega|(simp only[go_sem]<;>omega)|fail)only[go_sem]
 repeat(first|apply Ya|apply Yb|apply Yc|((first|apply Yd|apply Ye|apply Yf|apply Yg|apply Yh);simp -implicitDefEqProofs(maxSteps:=9^7)(disch:=first|exact Yo rfl|omega|(simp only[go_sem]<;>omega)|fail)only[go_sem,h0,h1,hl2,show ¬ (60 : Int) < d.rows.length by omega,show ¬ (d.rows.length : Int) = 0 by omega]<;>try with_reducible rfl)|apply Yi|apply Yj|apply Yk|apply Yl|apply Ym|apply Yn)
 generalize hN : d.rows.length = N at *;apply Yt N (fun i=>⟨[(2,.ptr 128 0 0),(37,.list 1 sv),(38,iv (N : Int)),(39,iv (i : Int))],[(128,.box [iv (d.hk : Int),.slice 302049 0 i]),(302049,.arr 3 (cs.take i))],[],10000000⟩) (fun _=>True)
 ·simp -implicitDefEqProofs(maxSteps:=9^7)(disch:=first|exact Yo rfl|omega|(simp only[go_sem]<;>omega)|fail)only[go_sem,norm_eq,Ok.some]
  rfl
 ·trivial
 intro i hi _;have n1:=hnl i hi;have P1:=hpl i;have t1 : (cs.take i).take i = cs.take i:=List.take_of_length_le (by omega)
 by_cases h' : i < N
 ·have s1:=hstep i h'
  have g1:=hget i h';rw [s1];clear hstep hget hnl hpl;generalize cs.take i = L at *;repeat(first|apply Ya|apply Yb|apply Yc|((first|apply Yd|apply Ye|apply Yf|apply Yg|apply Yh);simp -implicitDefEqProofs(maxSteps:=9^7)(disch:=first|exact Yo rfl|omega|(simp only[go_sem]<;>omega)|fail)only[go_sem,h',Int.ofNat_lt,hl2,g1,n1,t1,Int.toNat_natCast]<;>try with_reducible rfl)|apply Yi|apply Yj|apply Yk|apply Yl|apply Ym|apply Yn)
  apply Ys
  ·simp -implicitDefEqProofs(maxSteps:=9^7)(disch:=first|exact Yo rfl|omega|(simp only[go_sem]<;>omega)|fail)only[go_sem,norm_eq,Ok.some]; with_reducible rfl
  exact ⟨h',by simp,trivial⟩
 ·obtain rfl : i = N:=by omega
  clear hstep hget hnl hpl;generalize cs.take i = L at *;repeat(first|apply Ya|apply Yb|apply Yc|((first|apply Yd|apply Ye|apply Yf|apply Yg|apply Yh);simp -implicitDefEqProofs(maxSteps:=9^7)(disch:=first|exact Yo rfl|omega|(simp only[go_sem]<;>omega)|fail)only[go_sem,h',Int.ofNat_lt,n1,P1,t1]<;>try with_reducible rfl)|apply Yi|apply Yj|apply Yk|apply Yl|apply Ym|apply Yn)
end Go.Abs
