/-
 Several texts: CH, TA, TB.
-/
import Derived.Test.YtgpbjihpkoiaiaaCS
import Derived.Test.YtgpbjihpkoiaiaaPrim
set_option linter.all false
namespace Go.Abs
set_option maxRecDepth 10000
set_option maxHeartbeats 4000000
def hsrc (l : List ByteB) (hk i : Nat) : Nat := (l[i]?.map fun r => r.1 % hk).getD 0
def harnN (x : LoomB) : List Nat := (List.range (max 1 (min x.warps.length 30))).map fun i => hsrc x.warps (1 + x.hooks.1 % 12) i
end Go.Abs
set_option linter.all false
namespace Go.Abs
set_option maxRecDepth 10000
set_option maxHeartbeats 2000000
structure HarN where
 hk : Nat
 ws : List Nat
abbrev HarN.av (h : HarN) : AV := .agg [iv (h.hk : Int),.list 1 (natsV h.ws)]
structure HarN.Ok (h : HarN) : Prop where
 h1 : 1 ≤ h.hk
 h24 : h.hk ≤ 24
 w1 : 1 ≤ h.ws.length
 w96 : h.ws.length ≤ 96
 lt : ∀ w ∈ h.ws,w < h.hk
def clothV (rows ws : List Nat) : List AV := rows.map fun r => strA (pickB r ws)
@[simp] theorem cloth_len (rows ws : List Nat) : (clothV rows ws).length = rows.length := by simp [clothV]
theorem twithin1_ok (lo hi n : Int) : lim F 133 [iv n,.iptr (.agg [iv lo]) 0,.iptr (.agg [iv hi]) 0] = some (.bool (decide (n < lo ∨ hi < n)),[]) := by
 by_cases h1 : n < lo <;> by_cases h2 : hi < n
 all_goals
  refine Yr (fn:=a133) (k:=3) (res:=[.tmp 4]) rfl rfl rfl (by simp -implicitDefEqProofs(maxSteps:=9^7)(disch:=first|exact Yo rfl|omega|(simp only[go_sem]<;>omega)|fail)only[go_sem]) ?_
  try delta mvA
  try delta opA
  try delta tA
  simp -implicitDefEqProofs(maxSteps:=9^7)(disch:=first|exact Yo rfl|omega|(simp only[go_sem]<;>omega)|fail)only[go_sem]
  repeat(first|apply Ya|apply Yb|apply Yc|((first|apply Yd|apply Ye|apply Yf|apply Yg|apply Yh);simp -implicitDefEqProofs(maxSteps:=9^7)(disch:=first|exact Yo rfl|omega|(simp only[go_sem]<;>omega)|fail)only[go_sem,h1,h2]<;>try with_reducible rfl)|apply Yi|apply Yj|apply Yk|apply Yl|apply Ym|apply Yn)
theorem twithin_ok (lo hi : Int) (l : List Int) (hl : l.length < 1000000000) : lim F 78 [iv lo,iv hi,.list 1 (l.map fun n => iv n)] = some (.bool (l.all fun n => decide (lo ≤ n ∧ n ≤ hi)),[]) := by
 have h := contains_ints l (fun n => decide (n < lo ∨ hi < n)) 133 (.agg [iv lo]) (.agg [iv hi]) hl (fun n _ => twithin1_ok lo hi n)
 refine Yr (fn:=a78) (k:=3) (res:=[.tmp 6]) rfl rfl rfl (by simp -implicitDefEqProofs(maxSteps:=9^7)(disch:=first|exact Yo rfl|omega|(simp only[go_sem]<;>omega)|fail)only[go_sem]) ?_
 try delta mvA
 try delta opA
 try delta tA
 simp -implicitDefEqProofs(maxSteps:=9^7)(disch:=first|exact Yo rfl|omega|(simp only[go_sem]<;>omega)|fail)only[go_sem]
 repeat(first|apply Ya|apply Yb|apply Yc|((first|apply Yd|apply Ye|apply Yf|apply Yg|apply Yh);simp -implicitDefEqProofs(maxSteps:=9^7)(disch:=first|exact Yo rfl|omega|(simp only[go_sem]<;>omega)|fail)only[go_sem,h]<;>try with_reducible rfl)|apply Yi|apply Yj|apply Yk|apply Yl|apply Ym|apply Yn)
 simp only [Option.some.injEq,Prod.mk.injEq,AV.bool.injEq,and_true];rw [List.any_eq_not_all_not,Bool.not_not]
 congr 1
 funext n;by_cases h1 : n < lo <;> by_cases h2 : hi < n <;> simp [h1,h2] <;> omega
theorem twithin_one (lo hi n : Int) : lim F 78 [iv lo,iv hi,.list 1 [iv n]] = some (.bool (decide (lo ≤ n ∧ n ≤ hi)),[]) := by
 have h := twithin_ok lo hi [n] (by simp)
 simpa using h
theorem twithin_nats (n : Nat) (l : List Nat) (hl : l.length ≤ 1000000) (h : ∀ r ∈ l,r < n) : lim F 78 [iv 0,iv ((n : Int) - 1),.list 1 (natsV l)] = some (.bool true,[]) := by
 have hw := twithin_ok 0 ((n : Int) - 1) (l.map fun n : Nat => (n : Int)) (by simp; omega)
 rw [List.map_map] at hw;have : ((l.map fun n : Nat => (n : Int)).all fun m => decide (0 ≤ m ∧ m ≤ (n : Int) - 1)) = true := by
  rw [List.all_eq_true];intro m hm;obtain ⟨r,hr,rfl⟩ := List.mem_map.1 hm;have := h r hr;exact decide_eq_true ⟨by omega,by omega⟩
 rw [this] at hw;exact hw
theorem tCheck_ok (h : HarN) (ho : h.Ok) : lim F 68 [h.av] = some (iv 0,[]) := by
 have h1 := ho.h1;have h24 := ho.h24;have w1 := ho.w1;have w96 := ho.w96;have hw := twithin_nats h.hk h.ws (by omega) ho.lt
 have hw2 := twithin_one 1 24 (h.hk : Int);rw [decide_eq_true (show (1 : Int) ≤ (h.hk : Int) ∧ (h.hk : Int) ≤ 24 by omega)] at hw2
 have hln : (natsV h.ws).length = h.ws.length := by simp
 unfold HarN.av;generalize natsV h.ws = es at *;refine Yr (fn:=a68) (k:=1) (res:=[.tmp 2]) rfl rfl rfl (by simp -implicitDefEqProofs(maxSteps:=9^7)(disch:=first|exact Yo rfl|omega|(simp only[go_sem]<;>omega)|fail)only[go_sem]) ?_
 try delta mvA
 try delta opA
 try delta tA
 simp -implicitDefEqProofs(maxSteps:=9^7)(disch:=first|exact Yo rfl|omega|(simp only[go_sem]<;>omega)|fail)only[go_sem]
 repeat(first|apply Ya|apply Yb|apply Yc|((first|apply Yd|apply Ye|apply Yf|apply Yg|apply Yh);simp -implicitDefEqProofs(maxSteps:=9^7)(disch:=first|exact Yo rfl|omega|(simp only[go_sem]<;>omega)|fail)only[go_sem,hw,hw2,hln,show ¬ (96 : Int) < h.ws.length by omega,show ¬ (h.ws.length : Int) = 0 by omega]<;>try with_reducible rfl)|apply Yi|apply Yj|apply Yk|apply Yl|apply Ym|apply Yn)
theorem warps_of (l : List Nat) (h : ∀ w ∈ l,w < 63) : mapO warpOf (natsV l) = some l := by
 induction l with
 | nil => rfl
 | cons w l ih =>
  have h1 : warpOf (iv (w : Int)) = some w := by
   have := h w (by simp)
   simp only [warpOf];rw [if_pos ⟨by omega,by omega⟩]
   simp
  have h2 := ih fun x hx => h x (List.mem_cons_of_mem _ hx)
  unfold natsV at h2 ⊢;simp only [List.map_cons,mapO,h1,h2]
theorem tpick_ok (hk : Int) (ws : List Nat) (row : Nat) (h : ∀ w ∈ ws,w < 63) (hl : ws.length ≤ 1000) (hr : row < 9223372036854775808) :
  lim F 70 [.agg [iv hk,.list 1 (natsV ws)],iv (row : Int)] = some (strA (pickB row ws),[]) :=
 lim_prim2 (f := tieV) rfl (by
  simp only [tieV,warps_of ws h];rw [if_pos ⟨by omega,by omega,by simpa using hl⟩]
  simp)
theorem tWeave_ok (h : HarN) (ho : h.Ok) (d : DesN) (hd : d.Ok) (he : d.hk = h.hk) : lim F 23 [h.av,d.av] = some (.tuple [.own 1 (clothV d.rows h.ws),iv 0],[]) := by
 have h24 := ho.h24;have hc1 := tCheck_ok h ho;have hc2 := Check_ok d.a (by have := hd.r60; simp [DesN.a]; omega)
 rw [checkD_ok hd,DesN.a_av] at hc2;have p1 : 2 ^ d.hk ≤ 2 ^ 24 := Nat.pow_le_pow_right (by omega) (by omega)
 have hgd : ∀ i (hi : i < d.rows.length),d.rows[i] = d.rows.getD i 0 := fun i hi => by rw [List.getD_eq_getElem?_getD,List.getElem?_eq_getElem hi]; rfl
 have hp : ∀ i,i < d.rows.length → lim F 70 [.agg [iv (h.hk : Int),.list 1 (natsV h.ws)],iv ((d.rows.getD i 0 : Nat) : Int)] = some (strA (pickB (d.rows.getD i 0) h.ws),[]) := fun i hi =>
  tpick_ok _ _ _ (fun w hw => by have := ho.lt w hw; omega) (by have := ho.w96; omega) (by rw [← hgd i hi]; have := hd.lt _ (List.getElem_mem hi); omega)
 have hg : ∀ i,i < d.rows.length → (natsV d.rows)[i]? = some (iv ((d.rows.getD i 0 : Nat) : Int)) := fun i hi => by
  unfold natsV; rw [List.getElem?_map,List.getElem?_eq_getElem hi,← hgd i hi]; rfl
 have hln : (natsV d.rows).length = d.rows.length := by simp
 unfold DesN.av at hc2 ⊢;unfold HarN.av at hc1 ⊢;change lim F _ [.agg [iv (d.hk : Int),.list 1 (natsV d.rows)]] = _ at hc2;change lim F _ [_,.agg [iv (d.hk : Int),.list 1 (natsV d.rows)]] = _;have h60 := hd.r60;rw [he] at hc2 ⊢;have hst : ∀ i,i < d.rows.length → clothV (d.rows.take (i + 1)) h.ws = clothV (d.rows.take i) h.ws ++ [strA (pickB (d.rows.getD i 0) h.ws)] := fun i hi => by
  unfold clothV;rw [List.take_succ_eq_append_getElem hi,List.map_append,← hgd i hi]; rfl
 have hC : ∀ i,i ≤ d.rows.length → (clothV (d.rows.take i) h.ws).length = i := fun i hi => by simp; omega
 have hall : clothV (d.rows.take d.rows.length) h.ws = clothV d.rows h.ws := by rw [List.take_length]
 clear hgd;generalize hn : d.rows.length = n at *;generalize natsV d.rows = rv at *;generalize natsV h.ws = wv at *;refine Yr (fn:=a23) (k:=2) (res:=[.tmp 4,.tmp 5]) rfl rfl rfl (by simp -implicitDefEqProofs(maxSteps:=9^7)(disch:=first|exact Yo rfl|omega|(simp only[go_sem]<;>omega)|fail)only[go_sem]) ?_
 try delta mvA
 try delta opA
 try delta tA
 simp -implicitDefEqProofs(maxSteps:=9^7)(disch:=first|exact Yo rfl|omega|(simp only[go_sem]<;>omega)|fail)only[go_sem]
 repeat(first|apply Ya|apply Yb|apply Yc|((first|apply Yd|apply Ye|apply Yf|apply Yg|apply Yh);simp -implicitDefEqProofs(maxSteps:=9^7)(disch:=first|exact Yo rfl|omega|(simp only[go_sem]<;>omega)|fail)only[go_sem,hc1,hc2,hln]<;>try with_reducible rfl)|apply Yi|apply Yj|apply Yk|apply Yl|apply Ym|apply Yn)
 apply Yt n (fun i => ⟨[(2,.ptr 128 0 0),(4,.slice 256 0 i),(28,.list 1 rv),(29,iv (n : Int)),(30,iv (i : Int))],[(128,.box [iv (h.hk : Int),.list 1 wv]),(256,.arr 1 (clothV (d.rows.take i) h.ws))],[],10000000⟩) (fun _ => True)
 ·simp -implicitDefEqProofs(maxSteps:=9^7)(disch:=first|exact Yo rfl|omega|(simp only[go_sem]<;>omega)|fail)only[go_sem,norm_eq,Ok.some]
  rfl
 ·trivial
 intro i hi _;have n1 := hC i hi;by_cases h' : i < n
 ·have a1 := hg i h'
  have a2 := hp i h';have a3 := hst i h';rw [a3];generalize pickB (d.rows.getD i 0) h.ws = sb at *;generalize d.rows.getD i 0 = r at *;generalize clothV (d.rows.take i) h.ws = L at *;clear hg hp hst hC;have t1 : L.take i = L := List.take_of_length_le (by omega)
  repeat(first|apply Ya|apply Yb|apply Yc|((first|apply Yd|apply Ye|apply Yf|apply Yg|apply Yh);simp -implicitDefEqProofs(maxSteps:=9^7)(disch:=first|exact Yo rfl|omega|(simp only[go_sem]<;>omega)|fail)only[go_sem,h',Int.ofNat_lt,a1,a2,n1,t1,hln,Int.toNat_natCast]<;>try with_reducible rfl)|apply Yi|apply Yj|apply Yk|apply Yl|apply Ym|apply Yn)
  apply Ys
  ·simp -implicitDefEqProofs(maxSteps:=9^7)(disch:=first|exact Yo rfl|omega|(simp only[go_sem]<;>omega)|fail)only[go_sem,norm_eq,Ok.some]; with_reducible rfl
  exact ⟨h',by simp,trivial⟩
 ·obtain rfl : i = n := by omega
  rw [hall] at n1 ⊢;generalize clothV d.rows h.ws = L at *;clear hg hp hst hC;have t1 : L.take i = L := List.take_of_length_le (by omega)
  repeat(first|apply Ya|apply Yb|apply Yc|((first|apply Yd|apply Ye|apply Yf|apply Yg|apply Yh);simp -implicitDefEqProofs(maxSteps:=9^7)(disch:=first|exact Yo rfl|omega|(simp only[go_sem]<;>omega)|fail)only[go_sem,h',Int.ofNat_lt,n1,t1,hln]<;>try with_reducible rfl)|apply Yi|apply Yj|apply Yk|apply Yl|apply Ym|apply Yn)
end Go.Abs
set_option linter.all false
namespace Go.Abs
set_option maxRecDepth 10000
set_option maxHeartbeats 4000000
theorem armTied_ok (hk : Int) (ws : List Nat) (h : ws.length ≤ 1000) : lim F 24 [.agg [iv hk,.list 1 (natsV ws)]] = some (.agg [iv hk,.own 1 (natsV ws)],[]) := by
 have hln : (natsV ws).length = ws.length := by simp
 have ha := armInts_ok (natsV ws) (nat_plain _) (by omega)
 have htk : (natsV ws).take ws.length = natsV ws := List.take_of_length_le (by omega)
 have hpl : (natsV ws).all AV.plain = true := nat_plain _;generalize natsV ws = ps at *;refine Yr (fn:=a24) (k:=1) (res:=[.cell 2 2 true]) rfl rfl rfl (by simp -implicitDefEqProofs(maxSteps:=9^7)(disch:=first|exact Yo rfl|omega|(simp only[go_sem]<;>omega)|fail)only[go_sem]) ?_
 try delta mvA
 try delta opA
 try delta tA
 simp -implicitDefEqProofs(maxSteps:=9^7)(disch:=first|exact Yo rfl|omega|(simp only[go_sem]<;>omega)|fail)only[go_sem]
 repeat(first|apply Ya|apply Yb|apply Yc|((first|apply Yd|apply Ye|apply Yf|apply Yg|apply Yh);simp -implicitDefEqProofs(maxSteps:=9^7)(disch:=first|exact Yo rfl|omega|(simp only[go_sem]<;>omega)|fail)only[go_sem,ha,hln,htk,hpl]<;>try with_reducible rfl)|apply Yi|apply Yj|apply Yk|apply Yl|apply Ym|apply Yn)
theorem armLike_ok (l : List (List UInt8)) (h : l.length ≤ 1000) : lim F 26 [.list 1 (l.map strA),.list 1 (l.map strA)] = some (.bool true,[]) := by
 have hln : (l.map strA).length = l.length := by simp
 have hg : ∀ i,i < l.length → (l.map strA)[i]? = some (strA (l.getD i [])) := fun i hi => by
  rw [List.getElem?_map,List.getElem?_eq_getElem hi,List.getD_eq_getElem?_getD,List.getElem?_eq_getElem hi]; rfl
 generalize l.map strA = es at *;refine Yr (fn:=a26) (k:=2) (res:=[.tmp 4]) rfl rfl rfl (by simp -implicitDefEqProofs(maxSteps:=9^7)(disch:=first|exact Yo rfl|omega|(simp only[go_sem]<;>omega)|fail)only[go_sem]) ?_
 try delta mvA
 try delta opA
 try delta tA
 simp -implicitDefEqProofs(maxSteps:=9^7)(disch:=first|exact Yo rfl|omega|(simp only[go_sem]<;>omega)|fail)only[go_sem]
 repeat(first|apply Ya|apply Yb|apply Yc|((first|apply Yd|apply Ye|apply Yf|apply Yg|apply Yh);simp -implicitDefEqProofs(maxSteps:=9^7)(disch:=first|exact Yo rfl|omega|(simp only[go_sem]<;>omega)|fail)only[go_sem,hln]<;>try with_reducible rfl)|apply Yi|apply Yj|apply Yk|apply Yl|apply Ym|apply Yn)
 apply Yt l.length (fun i => ⟨[(0,.list 1 es),(1,.list 1 es),(5,iv (i : Int))],[],[],10000000⟩) (fun _ => True)
 ·simp -implicitDefEqProofs(maxSteps:=9^7)(disch:=first|exact Yo rfl|omega|(simp only[go_sem]<;>omega)|fail)only[go_sem,norm_eq,Ok.some]
  rfl
 ·trivial
 intro i hi _;by_cases h' : i < l.length
 ·have a1 := hg i h'
  clear hg;generalize l.getD i [] = s at *;repeat(first|apply Ya|apply Yb|apply Yc|((first|apply Yd|apply Ye|apply Yf|apply Yg|apply Yh);simp -implicitDefEqProofs(maxSteps:=9^7)(disch:=first|exact Yo rfl|omega|(simp only[go_sem]<;>omega)|fail)only[go_sem,h',Int.ofNat_lt,a1,hln,Int.toNat_natCast,beq_self_eq_true]<;>try with_reducible rfl)|apply Yi|apply Yj|apply Yk|apply Yl|apply Ym|apply Yn)
  apply Ys
  ·simp -implicitDefEqProofs(maxSteps:=9^7)(disch:=first|exact Yo rfl|omega|(simp only[go_sem]<;>omega)|fail)only[go_sem,norm_eq,Ok.some]; with_reducible rfl
  exact ⟨h',by simp,trivial⟩
 ·obtain rfl : i = l.length := by omega
  repeat(first|apply Ya|apply Yb|apply Yc|((first|apply Yd|apply Ye|apply Yf|apply Yg|apply Yh);simp -implicitDefEqProofs(maxSteps:=9^7)(disch:=first|exact Yo rfl|omega|(simp only[go_sem]<;>omega)|fail)only[go_sem,h',Int.ofNat_lt,hln]<;>try with_reducible rfl)|apply Yi|apply Yj|apply Yk|apply Yl|apply Ym|apply Yn)
end Go.Abs
