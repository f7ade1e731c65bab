/-
 Several texts: TM, EA, EB, EC, EP, ER.
-/
import Derived.Test.YtgpbjihpkoiaiaaTB
import Derived.KernelRfl
import Derived.Test.YtgpbjihpkoiaiaaWpE
set_option linter.all false
namespace Go.Abs
set_option maxRecDepth 100000
set_option maxHeartbeats 4000000
def strW (hk t : Nat) : List Nat := (List.replicate t (List.range hk)).flatten
noncomputable def mkOne (hk t : Nat) : Bool := match evalCall F 60 31 [iv (hk : Int),.list 4 [.agg [iv 0,iv ((hk : Int) - 1),iv 1,iv (t : Int)]]] with
 | some (r,[]) => AV.beq r (.tuple [.agg [iv (hk : Int),.own 1 (natsV (strW hk t))],iv 0,iv 0])
 | _ => false
noncomputable def mkChk (t : Nat) : Bool := (List.range 12).all fun k => mkOne (k + 1) t
@[simp] theorem pick_len (r : Nat) (ws : List Nat) : (pickB r ws).length = ws.length := by simp [pickB]
theorem cloth_at {rows ws : List Nat} {i : Nat} (h : i < rows.length) : (clothV rows ws)[i]? = some (strA (pickB (rows.getD i 0) ws)) := by
 unfold clothV;rw [List.getElem?_map,List.getElem?_eq_getElem h,List.getD_eq_getElem?_getD,List.getElem?_eq_getElem h]; rfl
theorem cloth_bad {rows ws : List Nat} (h : 1 ≤ rows.length) : (clothV rows ws).all AV.plain = false := by
 rw [List.all_eq_false];exact ⟨_,List.mem_of_getElem? (cloth_at (i := 0) (by omega)),by simp [AV.plain,AV.plain1]⟩
end Go.Abs
set_option linter.all false
namespace Go.Abs
set_option maxRecDepth 10000
set_option maxHeartbeats 4000000
abbrev intsV (l : List Int) : List AV := l.map fun n => iv n
theorem ints_plain (l : List Int) : (intsV l).all AV.plain = true := by
 rw [List.all_eq_true];intro x hx;obtain ⟨y,-,rfl⟩ := List.mem_map.1 hx;rfl
structure DrawOk (n : Nat) (dr : List Int) : Prop where
 len : dr.length = n
 rng : ∀ e ∈ dr,-1 ≤ e ∧ e < n
abbrev drAt (dr : List Int) (w : Nat) : Int := dr.getD w 0
theorem DrawOk.at {n : Nat} {dr : List Int} (h : DrawOk n dr) {w : Nat} (hw : w < n) : -1 ≤ drAt dr w ∧ drAt dr w < n := by
 have := h.len;unfold drAt;rw [List.getD_eq_getElem?_getD,List.getElem?_eq_getElem (by omega)]
 exact h.rng _ (List.getElem_mem (by omega))
theorem dr_get {dr : List Int} {w : Nat} (h : w < dr.length) : (intsV dr)[w]? = some (iv (drAt dr w)) := by
 unfold intsV drAt;rw [List.getElem?_map,List.getElem?_eq_getElem h,List.getD_eq_getElem?_getD,List.getElem?_eq_getElem h]; rfl
abbrev hookN (ws : List Nat) (w : Nat) : Nat := ws.getD w 0
theorem ws_get {ws : List Nat} {w : Nat} (h : w < ws.length) : (natsV ws)[w]? = some (iv ((hookN ws w : Nat) : Int)) := by
 unfold natsV hookN;rw [List.getElem?_map,List.getElem?_eq_getElem h,List.getD_eq_getElem?_getD,List.getElem?_eq_getElem h]; rfl
def rightW (ws : List Nat) (dr : List Int) (w : Nat) : Bool := decide (drAt dr w ≠ -1) && decide (hookN ws (drAt dr w).toNat = hookN ws w)
theorem ewithin1_ok (lo hi n : Int) : lim F 190 [iv n,.iptr (.agg [iv lo]) 0,.iptr (.agg [iv hi]) 0] = some (.bool (decide (n < lo ∨ hi < n)),[]) := by
 by_cases h1 : n < lo <;> by_cases h2 : hi < n
 all_goals
  refine Yr (fn:=a190) (k:=3) (res:=[.tmp 4]) rfl rfl rfl (by simp -implicitDefEqProofs(maxSteps:=9^7)(disch:=first|exact Yo rfl|omega|(simp only[go_sem]<;>omega)|fail)only[go_sem]) ?_
  try delta mvA
  try delta opA
  try delta tA
  simp -implicitDefEqProofs(maxSteps:=9^7)(disch:=first|exact Yo rfl|omega|(simp only[go_sem]<;>omega)|fail)only[go_sem]
  repeat(first|apply Ya|apply Yb|apply Yc|((first|apply Yd|apply Ye|apply Yf|apply Yg|apply Yh);simp -implicitDefEqProofs(maxSteps:=9^7)(disch:=first|exact Yo rfl|omega|(simp only[go_sem]<;>omega)|fail)only[go_sem,h1,h2]<;>try with_reducible rfl)|apply Yi|apply Yj|apply Yk|apply Yl|apply Ym|apply Yn)
theorem ewithin_ok (lo hi : Int) (l : List Int) (hl : l.length < 1000000000) : lim F 158 [iv lo,iv hi,.list 1 (l.map fun n => iv n)] = some (.bool (l.all fun n => decide (lo ≤ n ∧ n ≤ hi)),[]) := by
 have h := contains_ints l (fun n => decide (n < lo ∨ hi < n)) 190 (.agg [iv lo]) (.agg [iv hi]) hl (fun n _ => ewithin1_ok lo hi n)
 refine Yr (fn:=a158) (k:=3) (res:=[.tmp 6]) rfl rfl rfl (by simp -implicitDefEqProofs(maxSteps:=9^7)(disch:=first|exact Yo rfl|omega|(simp only[go_sem]<;>omega)|fail)only[go_sem]) ?_
 try delta mvA
 try delta opA
 try delta tA
 simp -implicitDefEqProofs(maxSteps:=9^7)(disch:=first|exact Yo rfl|omega|(simp only[go_sem]<;>omega)|fail)only[go_sem]
 repeat(first|apply Ya|apply Yb|apply Yc|((first|apply Yd|apply Ye|apply Yf|apply Yg|apply Yh);simp -implicitDefEqProofs(maxSteps:=9^7)(disch:=first|exact Yo rfl|omega|(simp only[go_sem]<;>omega)|fail)only[go_sem,h]<;>try with_reducible rfl)|apply Yi|apply Yj|apply Yk|apply Yl|apply Ym|apply Yn)
 simp only [Option.some.injEq,Prod.mk.injEq,AV.bool.injEq,and_true];rw [List.any_eq_not_all_not,Bool.not_not]
 congr 1
 funext n;by_cases h1 : n < lo <;> by_cases h2 : hi < n <;> simp [h1,h2] <;> omega
theorem eCheck_ok (h : HarN) (ho : h.Ok) (dr : List Int) (hd : DrawOk h.ws.length dr) : lim F 109 [h.av,.list 1 (intsV dr)] = some (iv 0,[]) := by
 have hc := tCheck_ok h ho;have w96 := ho.w96;have hl := hd.len;have hw := ewithin_ok (-1) ((h.ws.length : Int) - 1) dr (by omega)
 have ha : (dr.all fun n => decide (-1 ≤ n ∧ n ≤ (h.ws.length : Int) - 1)) = true := by
  rw [List.all_eq_true];intro e he;have := hd.rng e he;exact decide_eq_true ⟨by omega,by omega⟩
 rw [ha] at hw;have l1 : (intsV dr).length = h.ws.length := by simp [intsV,hl]
 have l2 : (natsV h.ws).length = h.ws.length := by simp
 unfold HarN.av at *;change lim F _ [_,_,.list 1 (intsV dr)] = _ at hw;generalize intsV dr = DV at *;generalize natsV h.ws = WV at *;generalize h.ws.length = n at *;refine Yr (fn:=a109) (k:=2) (res:=[.tmp 4]) rfl rfl rfl (by simp -implicitDefEqProofs(maxSteps:=9^7)(disch:=first|exact Yo rfl|omega|(simp only[go_sem]<;>omega)|fail)only[go_sem]) ?_
 try delta mvA
 try delta opA
 try delta tA
 simp -implicitDefEqProofs(maxSteps:=9^7)(disch:=first|exact Yo rfl|omega|(simp only[go_sem]<;>omega)|fail)only[go_sem]
 repeat(first|apply Ya|apply Yb|apply Yc|((first|apply Yd|apply Ye|apply Yf|apply Yg|apply Yh);simp -implicitDefEqProofs(maxSteps:=9^7)(disch:=first|exact Yo rfl|omega|(simp only[go_sem]<;>omega)|fail)only[go_sem,hc,hw,l1,l2]<;>try with_reducible rfl)|apply Yi|apply Yj|apply Yk|apply Yl|apply Ym|apply Yn)
theorem isRight_ok (hk : Int) (ws : List Nat) (dr : List Int) (n w : Nat) (hn : n ≤ 1000) (hl : ws.length = n) (hd : DrawOk n dr) (hw : w < n) : lim F 110 [.agg [iv hk,.list 1 (natsV ws),.list 1 (intsV dr)],iv (w : Int)] = some (.bool (rightW ws dr w),[]) := by
 have h1 := dr_get (dr := dr) (w := w) (by rw [hd.len]; exact hw)
 have h2 := hd.at hw;have h3 := ws_get (ws := ws) (w := w) (by omega)
 have l1 : (intsV dr).length = n := by simp [intsV,hd.len]
 have l2 : (natsV ws).length = n := by simp [hl]
 unfold rightW;generalize drAt dr w = e at *;by_cases c : e = -1
 ·subst c
  generalize intsV dr = DV at *;generalize natsV ws = WV at *;refine Yr (fn:=a110) (k:=2) (res:=[.tmp 4]) rfl rfl rfl (by simp -implicitDefEqProofs(maxSteps:=9^7)(disch:=first|exact Yo rfl|omega|(simp only[go_sem]<;>omega)|fail)only[go_sem]) ?_
  try delta mvA
  try delta opA
  try delta tA
  simp -implicitDefEqProofs(maxSteps:=9^7)(disch:=first|exact Yo rfl|omega|(simp only[go_sem]<;>omega)|fail)only[go_sem]
  repeat(first|apply Ya|apply Yb|apply Yc|((first|apply Yd|apply Ye|apply Yf|apply Yg|apply Yh);simp -implicitDefEqProofs(maxSteps:=9^7)(disch:=first|exact Yo rfl|omega|(simp only[go_sem]<;>omega)|fail)only[go_sem,h1,l1,l2,hw,Int.ofNat_lt,Int.toNat_natCast]<;>try with_reducible rfl)|apply Yi|apply Yj|apply Yk|apply Yl|apply Ym|apply Yn)
 ·have h4 := ws_get (ws := ws) (w := e.toNat) (by omega)
  have e0 : 0 ≤ e := by omega
  by_cases q : hookN ws e.toNat = hookN ws w
  ·rw [q] at h4 ⊢
   generalize hookN ws w = hx at *;generalize intsV dr = DV at *;generalize natsV ws = WV at *;refine Yr (fn:=a110) (k:=2) (res:=[.tmp 4]) rfl rfl rfl (by simp -implicitDefEqProofs(maxSteps:=9^7)(disch:=first|exact Yo rfl|omega|(simp only[go_sem]<;>omega)|fail)only[go_sem]) ?_
   try delta mvA
   try delta opA
   try delta tA
   simp -implicitDefEqProofs(maxSteps:=9^7)(disch:=first|exact Yo rfl|omega|(simp only[go_sem]<;>omega)|fail)only[go_sem]
   repeat(first|apply Ya|apply Yb|apply Yc|((first|apply Yd|apply Ye|apply Yf|apply Yg|apply Yh);simp -implicitDefEqProofs(maxSteps:=9^7)(disch:=first|exact Yo rfl|omega|(simp only[go_sem]<;>omega)|fail)only[go_sem,h1,h3,h4,l1,l2,hw,c,e0,h2.2,Int.ofNat_lt,Int.toNat_natCast]<;>try with_reducible rfl)|apply Yi|apply Yj|apply Yk|apply Yl|apply Ym|apply Yn)
  ·have q' : ¬ ((hookN ws e.toNat : Nat) : Int) = ((hookN ws w : Nat) : Int) := by omega
   generalize hookN ws w = hx at *;generalize hookN ws e.toNat = hy at *;generalize intsV dr = DV at *;generalize natsV ws = WV at *;refine Yr (fn:=a110) (k:=2) (res:=[.tmp 4]) rfl rfl rfl (by simp -implicitDefEqProofs(maxSteps:=9^7)(disch:=first|exact Yo rfl|omega|(simp only[go_sem]<;>omega)|fail)only[go_sem]) ?_
   try delta mvA
   try delta opA
   try delta tA
   simp -implicitDefEqProofs(maxSteps:=9^7)(disch:=first|exact Yo rfl|omega|(simp only[go_sem]<;>omega)|fail)only[go_sem]
   repeat(first|apply Ya|apply Yb|apply Yc|((first|apply Yd|apply Ye|apply Yf|apply Yg|apply Yh);simp -implicitDefEqProofs(maxSteps:=9^7)(disch:=first|exact Yo rfl|omega|(simp only[go_sem]<;>omega)|fail)only[go_sem,h1,h3,h4,l1,l2,hw,c,e0,h2.2,q,q',Int.ofNat_lt,Int.toNat_natCast]<;>try with_reducible rfl)|apply Yi|apply Yj|apply Yk|apply Yl|apply Ym|apply Yn)
def wrongN (ws : List Nat) (dr : List Int) (n : Nat) : List Nat := (List.range n).filter fun w => !rightW ws dr w
theorem wrong_succ (ws : List Nat) (dr : List Int) (n : Nat) : wrongN ws dr (n + 1) = wrongN ws dr n ++ (if rightW ws dr n then [] else [n]) := by
 unfold wrongN;rw [List.range_succ,List.filter_append];cases h : rightW ws dr n <;> simp [h]
theorem wrong_len (ws : List Nat) (dr : List Int) (n : Nat) : (wrongN ws dr n).length ≤ n := by
 have := List.length_filter_le (fun w => !rightW ws dr w) (List.range n)
 rw [List.length_range] at this;exact this
theorem Wrong_ok (h : HarN) (ho : h.Ok) (dr : List Int) (hd : DrawOk h.ws.length dr) : lim F 56 [h.av,.list 1 (intsV dr)] = some (.tuple [.own 1 (natsV (wrongN h.ws dr h.ws.length)),iv 0],[]) := by
 have hc := eCheck_ok h ho dr hd;have w96 := ho.w96;have l1 : (intsV dr).length = h.ws.length := by simp [intsV,hd.len]
 have hR := fun w hw => isRight_ok (h.hk : Int) h.ws dr h.ws.length w (by omega) rfl hd hw
 have hst := fun i => wrong_succ h.ws dr i
 have hle := fun i => wrong_len h.ws dr i
 have hln : ∀ i,(natsV (wrongN h.ws dr i)).length = (wrongN h.ws dr i).length := fun i => by simp
 have hpl : ∀ i,(natsV (wrongN h.ws dr i)).all AV.plain = true := fun i => nat_plain _
 unfold HarN.av at *;generalize intsV dr = DV at *;generalize natsV h.ws = WV at *;generalize h.ws.length = n at *;refine Yr (fn:=a56) (k:=2) (res:=[.tmp 4,.tmp 5]) rfl rfl rfl (by simp -implicitDefEqProofs(maxSteps:=9^7)(disch:=first|exact Yo rfl|omega|(simp only[go_sem]<;>omega)|fail)only[go_sem]) ?_
 try delta mvA
 try delta opA
 try delta tA
 simp -implicitDefEqProofs(maxSteps:=9^7)(disch:=first|exact Yo rfl|omega|(simp only[go_sem]<;>omega)|fail)only[go_sem]
 repeat(first|apply Ya|apply Yb|apply Yc|((first|apply Yd|apply Ye|apply Yf|apply Yg|apply Yh);simp -implicitDefEqProofs(maxSteps:=9^7)(disch:=first|exact Yo rfl|omega|(simp only[go_sem]<;>omega)|fail)only[go_sem,hc,l1]<;>try with_reducible rfl)|apply Yi|apply Yj|apply Yk|apply Yl|apply Ym|apply Yn)
 apply Yt n (fun i => ⟨[(1,.list 1 DV),(2,.ptr 128 0 0),(4,.slice 256 0 (wrongN h.ws dr i).length),(15,iv (n : Int)),(16,iv (i : Int))],[(128,.box [iv (h.hk : Int),.list 1 WV]),(256,.arr 1 (natsV (wrongN h.ws dr i)))],[],10000000⟩) (fun _ => True)
 ·simp -implicitDefEqProofs(maxSteps:=9^7)(disch:=first|exact Yo rfl|omega|(simp only[go_sem]<;>omega)|fail)only[go_sem,norm_eq,Ok.some]
  rfl
 ·trivial
 intro i hi _;have n1 := hln i;have t1 : (natsV (wrongN h.ws dr i)).take (wrongN h.ws dr i).length = natsV (wrongN h.ws dr i) := List.take_of_length_le (by omega)
 have p1 := hpl i;have le1 := hle i;by_cases h' : i < n
 ·have r1 := hR i h'
  have s1 := hst i;rcases Bool.eq_false_or_eq_true (rightW h.ws dr i) with hb | hb
  ·rw [hb] at r1 s1
   simp only [if_true,List.append_nil] at s1;rw [s1];clear hR hst hle hln hpl;generalize natsV (wrongN h.ws dr i) = L at *;repeat(first|apply Ya|apply Yb|apply Yc|((first|apply Yd|apply Ye|apply Yf|apply Yg|apply Yh);simp -implicitDefEqProofs(maxSteps:=9^7)(disch:=first|exact Yo rfl|omega|(simp only[go_sem]<;>omega)|fail)only[go_sem,h',Int.ofNat_lt,r1,n1,t1]<;>try with_reducible rfl)|apply Yi|apply Yj|apply Yk|apply Yl|apply Ym|apply Yn)
   apply Ys
   ·simp -implicitDefEqProofs(maxSteps:=9^7)(disch:=first|exact Yo rfl|omega|(simp only[go_sem]<;>omega)|fail)only[go_sem,norm_eq,Ok.some]; with_reducible rfl
   exact ⟨h',by simp,trivial⟩
  ·rw [hb] at r1 s1
   simp only [Bool.false_eq_true,if_false] at s1;have s2 : natsV (wrongN h.ws dr (i + 1)) = natsV (wrongN h.ws dr i) ++ [iv (i : Int)] := by
    rw [s1]; unfold natsV; rw [List.map_append]; rfl
   have s3 : (wrongN h.ws dr (i + 1)).length = (wrongN h.ws dr i).length + 1 := by rw [s1]; simp
   rw [s2,s3];clear hR hst hle hln hpl s1 s2 s3;generalize natsV (wrongN h.ws dr i) = L at *;generalize (wrongN h.ws dr i).length = m at *;repeat(first|apply Ya|apply Yb|apply Yc|((first|apply Yd|apply Ye|apply Yf|apply Yg|apply Yh);simp -implicitDefEqProofs(maxSteps:=9^7)(disch:=first|exact Yo rfl|omega|(simp only[go_sem]<;>omega)|fail)only[go_sem,h',Int.ofNat_lt,r1,n1,t1]<;>try with_reducible rfl)|apply Yi|apply Yj|apply Yk|apply Yl|apply Ym|apply Yn)
   apply Ys
   ·simp -implicitDefEqProofs(maxSteps:=9^7)(disch:=first|exact Yo rfl|omega|(simp only[go_sem]<;>omega)|fail)only[go_sem,norm_eq,Ok.some]; with_reducible rfl
   exact ⟨h',by simp,trivial⟩
 ·obtain rfl : i = n := by omega
  clear hR hst hle hln hpl;generalize natsV (wrongN h.ws dr i) = L at *;generalize (wrongN h.ws dr i).length = m at *;repeat(first|apply Ya|apply Yb|apply Yc|((first|apply Yd|apply Ye|apply Yf|apply Yg|apply Yh);simp -implicitDefEqProofs(maxSteps:=9^7)(disch:=first|exact Yo rfl|omega|(simp only[go_sem]<;>omega)|fail)only[go_sem,h',Int.ofNat_lt,n1,t1,p1]<;>try with_reducible rfl)|apply Yi|apply Yj|apply Yk|apply Yl|apply Ym|apply Yn)
def eyeB (r : Nat) (ws : List Nat) (dr : List Int) : List UInt8 := dr.map fun e => if e = -1 then 46 else (pickB r ws).getD e.toNat 0
def byteV (l : List UInt8) : List AV := l.map fun b => .int .u8 (b.toNat : Int)
theorem byte_of (l : List UInt8) : mapO byteOf (byteV l) = some l := by
 induction l with
 | nil => rfl
 | cons b l ih =>
  unfold byteV at ih ⊢;have h1 : byteOf (.int .u8 (b.toNat : Int)) = some b := by
   have := b.toNat_lt;simp [byteOf];omega
  simp only [List.map_cons,mapO,h1,ih]
def eclothV (rows ws : List Nat) (dr : List Int) : List AV := rows.map fun r => strA (eyeB r ws dr)
@[simp] theorem ecloth_len (rows ws : List Nat) (dr : List Int) : (eclothV rows ws dr).length = rows.length := by simp [eclothV]
theorem eye_take (r : Nat) (ws : List Nat) (dr : List Int) {i : Nat} (h : i < dr.length) : byteV (eyeB r ws (dr.take (i + 1))) = byteV (eyeB r ws (dr.take i)) ++ [.int .u8 ((if drAt dr i = -1 then (46 : UInt8) else (pickB r ws).getD (drAt dr i).toNat 0).toNat : Int)] := by
 unfold byteV eyeB drAt;rw [List.take_succ_eq_append_getElem h,List.map_append,List.map_append,List.getD_eq_getElem?_getD,List.getElem?_eq_getElem h]; rfl
theorem eWeave_ok (h : HarN) (ho : h.Ok) (dr : List Int) (hdr : DrawOk h.ws.length dr) (d : DesN) (hd : d.Ok) (he : d.hk = h.hk) : lim F 54 [h.av,.list 1 (intsV dr),d.av] = some (.tuple [.own 1 (eclothV d.rows h.ws dr),iv 0],[]) := by
 have hc := eCheck_ok h ho dr hdr;have hW := tWeave_ok h ho d hd he;have w96 := ho.w96;have h60 := hd.r60;have l1 : (intsV dr).length = h.ws.length := by simp [intsV,hdr.len]
 have hdl := hdr.len;have hcl : (clothV d.rows h.ws).length = d.rows.length := by simp
 have hcp := cloth_bad (ws := h.ws) hd.r1;have hct : (clothV d.rows h.ws).take d.rows.length = clothV d.rows h.ws := List.take_of_length_le (by simp)
 have hcg : ∀ p,p < d.rows.length → (clothV d.rows h.ws)[p]? = some (strA (pickB (d.rows.getD p 0) h.ws)) := fun p hp => cloth_at hp
 have hst : ∀ i (hi : i < d.rows.length),eclothV (d.rows.take (i + 1)) h.ws dr = eclothV (d.rows.take i) h.ws dr ++ [strA (eyeB (d.rows.getD i 0) h.ws dr)] := fun i hi => by
  unfold eclothV;rw [List.take_succ_eq_append_getElem hi,List.map_append,List.getD_eq_getElem?_getD,List.getElem?_eq_getElem hi]; rfl
 have hC : ∀ i,i ≤ d.rows.length → (eclothV (d.rows.take i) h.ws dr).length = i := fun i hi => by simp; omega
 have hall : eclothV (d.rows.take d.rows.length) h.ws dr = eclothV d.rows h.ws dr := by rw [List.take_length]
 have hpl : ∀ r,(pickB r h.ws).length = h.ws.length := fun r => by simp
 have hbt := fun r i (hi : i < dr.length) => eye_take r h.ws dr hi
 have hbl : ∀ r i,i ≤ dr.length → (byteV (eyeB r h.ws (dr.take i))).length = i := fun r i hi => by simp [byteV,eyeB]; omega
 have hbo := fun r => byte_of (eyeB r h.ws dr)
 have hdg := fun i (hi : i < dr.length) => dr_get hi
 have hda := fun i (hi : i < h.ws.length) => hdr.at hi
 unfold HarN.av DesN.av at *;change lim F _ [_,_,.agg [iv (d.hk : Int),.list 1 (natsV d.rows)]] = _;change lim F _ [_,.agg [iv (d.hk : Int),.list 1 (natsV d.rows)]] = _ at hW;generalize hn : d.rows.length = n at *;generalize natsV d.rows = rv at *;generalize natsV h.ws = wv at *;generalize intsV dr = DV at *;generalize clothV d.rows h.ws = CL at *;refine Yr (fn:=a54) (k:=3) (res:=[.tmp 6,.tmp 7]) rfl rfl rfl (by simp -implicitDefEqProofs(maxSteps:=9^7)(disch:=first|exact Yo rfl|omega|(simp only[go_sem]<;>omega)|fail)only[go_sem]) ?_
 try delta mvA
 try delta opA
 try delta tA
 simp -implicitDefEqProofs(maxSteps:=9^7)(disch:=first|exact Yo rfl|omega|(simp only[go_sem]<;>omega)|fail)only[go_sem]
 repeat(first|apply Ya|apply Yb|apply Yc|((first|apply Yd|apply Ye|apply Yf|apply Yg|apply Yh);simp -implicitDefEqProofs(maxSteps:=9^7)(disch:=first|exact Yo rfl|omega|(simp only[go_sem]<;>omega)|fail)only[go_sem,hc,hW,l1,hcl,hcp,hct]<;>try with_reducible rfl)|apply Yi|apply Yj|apply Yk|apply Yl|apply Ym|apply Yn)
 apply Yt n (fun i => ⟨[(1,.list 1 DV),(6,.slice 384 0 i),(30,.slice 1920 0 n),(31,iv (n : Int)),(32,iv (i : Int))],[(384,.arr 1 (eclothV (d.rows.take i) h.ws dr)),(1920,.arr 1 CL)],[],10000000⟩) (fun _ => True)
 ·simp -implicitDefEqProofs(maxSteps:=9^7)(disch:=first|exact Yo rfl|omega|(simp only[go_sem]<;>omega)|fail)only[go_sem,norm_eq,Ok.some]
  rfl
 ·trivial
 intro i hi _;have n1 := hC i hi;by_cases h' : i < n
 ·have a1 := hcg i h'
  have a3 := hst i h';have b1 := hpl (d.rows.getD i 0);have b2 := fun j (hj : j < h.ws.length) => hbt (d.rows.getD i 0) j (by omega)
  have b3 := fun j (hj : j ≤ h.ws.length) => hbl (d.rows.getD i 0) j (by omega)
  have b4 := hbo (d.rows.getD i 0);have b5 : byteV (eyeB (d.rows.getD i 0) h.ws (dr.take h.ws.length)) = byteV (eyeB (d.rows.getD i 0) h.ws dr) := by rw [List.take_of_length_le (by omega)]
  rw [a3];clear hcg hst hpl hbt hbl hbo hC hall;generalize d.rows.getD i 0 = r at *;generalize eclothV (d.rows.take i) h.ws dr = L at *;generalize hN : h.ws.length = N at *;repeat(first|apply Ya|apply Yb|apply Yc|((first|apply Yd|apply Ye|apply Yf|apply Yg|apply Yh);simp -implicitDefEqProofs(maxSteps:=9^7)(disch:=first|exact Yo rfl|omega|(simp only[go_sem]<;>omega)|fail)only[go_sem,h',Int.ofNat_lt,a1,n1,hcl,l1,Int.toNat_natCast]<;>try with_reducible rfl)|apply Yi|apply Yj|apply Yk|apply Yl|apply Ym|apply Yn)
  apply Yt N (fun j => ⟨[(1,.list 1 DV),(6,.slice 384 0 i),(11,strA (pickB r h.ws)),(12,.slice 768 0 j),(30,.slice 1920 0 n),(31,iv (n : Int)),(32,iv (i : Int)),(36,.list 1 DV),(37,iv (N : Int)),(38,iv (j : Int))],[(384,.arr 1 L),(768,.arr 1 (byteV (eyeB r h.ws (dr.take j)))),(1920,.arr 1 CL)],[],10000000⟩) (fun _ => True)
  ·simp -implicitDefEqProofs(maxSteps:=9^7)(disch:=first|exact Yo rfl|omega|(simp only[go_sem]<;>omega)|fail)only[go_sem,norm_eq,Ok.some]
   rfl
  ·trivial
  intro j hj _;have m1 := b3 j hj;by_cases h2 : j < N
  ·have c1 := hdg j (by omega)
   have c2 := hda j h2;have c3 := b2 j h2;rw [c3];clear b2 b3 hdg hda b4 b5 c3;generalize drAt dr j = e at *;generalize byteV (eyeB r h.ws (dr.take j)) = Lb at *;have tb : Lb.take j = Lb := List.take_of_length_le (by omega)
   by_cases q : e = -1
   ·subst q
    simp only [if_true];generalize pickB r h.ws = sb at *;repeat(first|apply Ya|apply Yb|apply Yc|((first|apply Yd|apply Ye|apply Yf|apply Yg|apply Yh);simp -implicitDefEqProofs(maxSteps:=9^7)(disch:=first|exact Yo rfl|omega|(simp only[go_sem]<;>omega)|fail)only[go_sem,h',h2,Int.ofNat_lt,c1,m1,l1,tb,Int.toNat_natCast]<;>try with_reducible rfl)|apply Yi|apply Yj|apply Yk|apply Yl|apply Ym|apply Yn)
    apply Ys
    ·simp -implicitDefEqProofs(maxSteps:=9^7)(disch:=first|exact Yo rfl|omega|(simp only[go_sem]<;>omega)|fail)only[go_sem,norm_eq,Ok.some]; with_reducible rfl
    exact ⟨h2,by simp,trivial⟩
   ·rw [if_neg q]
    have e0 : 0 ≤ e := by omega
    generalize pickB r h.ws = sb at *;repeat(first|apply Ya|apply Yb|apply Yc|((first|apply Yd|apply Ye|apply Yf|apply Yg|apply Yh);simp -implicitDefEqProofs(maxSteps:=9^7)(disch:=first|exact Yo rfl|omega|(simp only[go_sem]<;>omega)|fail)only[go_sem,h',h2,Int.ofNat_lt,c1,m1,l1,tb,b1,q,e0,c2.2,Int.toNat_natCast]<;>try with_reducible rfl)|apply Yi|apply Yj|apply Yk|apply Yl|apply Ym|apply Yn)
    apply Ys
    ·simp -implicitDefEqProofs(maxSteps:=9^7)(disch:=first|exact Yo rfl|omega|(simp only[go_sem]<;>omega)|fail)only[go_sem,norm_eq,Ok.some]; with_reducible rfl
    exact ⟨h2,by simp,trivial⟩
  ·obtain rfl : j = N := by omega
   rw [b5] at m1 ⊢;clear b2 b3 hdg hda b5;generalize eyeB r h.ws dr = eb at *;generalize byteV eb = Lb at *;generalize pickB r h.ws = sb at *;have tb : Lb.take j = Lb := List.take_of_length_le (by omega)
   have tl : L.take i = L := List.take_of_length_le (by omega)
   repeat(first|apply Ya|apply Yb|apply Yc|((first|apply Yd|apply Ye|apply Yf|apply Yg|apply Yh);simp -implicitDefEqProofs(maxSteps:=9^7)(disch:=first|exact Yo rfl|omega|(simp only[go_sem]<;>omega)|fail)only[go_sem,h',h2,Int.ofNat_lt,m1,tb,tl,b4,n1,l1]<;>try with_reducible rfl)|apply Yi|apply Yj|apply Yk|apply Yl|apply Ym|apply Yn)
   apply Ys
   ·simp -implicitDefEqProofs(maxSteps:=9^7)(disch:=first|exact Yo rfl|omega|(simp only[go_sem]<;>omega)|fail)only[go_sem,norm_eq,Ok.some]; with_reducible rfl
   exact ⟨h',by simp,trivial⟩
 ·obtain rfl : i = n := by omega
  have pl : (eclothV d.rows h.ws dr).length = i := by simp [hn]
  rw [hall] at n1 ⊢;generalize eclothV d.rows h.ws dr = L at *;have t1 : L.take i = L := List.take_of_length_le (by omega)
  repeat(first|apply Ya|apply Yb|apply Yc|((first|apply Yd|apply Ye|apply Yf|apply Yg|apply Yh);simp -implicitDefEqProofs(maxSteps:=9^7)(disch:=first|exact Yo rfl|omega|(simp only[go_sem]<;>omega)|fail)only[go_sem,h',Int.ofNat_lt,n1,t1]<;>try with_reducible rfl)|apply Yi|apply Yj|apply Yk|apply Yl|apply Ym|apply Yn)
end Go.Abs
set_option linter.all false
namespace Go.Abs
set_option maxRecDepth 10000
set_option maxHeartbeats 4000000
def dsrc (n : Nat) (by' : List ByteB) (w : Nat) : Int := match by'[w]? with
 | some b => if b.1 % 16 = 15 then -1 else if 80 ≤ b.1 then ((b.1 % n : Nat) : Int) else (w : Int)
 | none => (w : Int)
def drawN (n : Nat) (by' : List ByteB) (k : Nat) : List Int := (List.range k).map (dsrc n by')
theorem drawN_succ (n : Nat) (by' : List ByteB) (k : Nat) : intsV (drawN n by' (k + 1)) = intsV (drawN n by' k) ++ [iv (dsrc n by' k)] := by
 unfold drawN intsV;rw [List.range_succ,List.map_append,List.map_append]; rfl
@[simp] theorem drawN_len (n : Nat) (by' : List ByteB) (k : Nat) : (drawN n by' k).length = k := by simp [drawN]
theorem drawN_ok (n : Nat) (by' : List ByteB) (hn : 1 ≤ n) : DrawOk n (drawN n by' n) where
 len := by simp
 rng := fun e he => by
  obtain ⟨w,hw,rfl⟩ := List.mem_map.1 he;have hw := List.mem_range.1 hw;unfold dsrc;split
  ·rename_i b hb
   have := Nat.mod_lt b.1 (show 0 < n by omega)
   split
   ·omega
   ·split <;> omega
  ·omega
theorem armDrawing_ok (n : Nat) (by' : List ByteB) (h1 : 1 ≤ n) (h2 : n ≤ 1000) : lim F 53 [iv (n : Int),.list 1 (bytesV by')] = some (.own 1 (intsV (drawN n by' n)),[]) := by
 have hln : ∀ k,(intsV (drawN n by' k)).length = k := fun k => by simp [intsV]
 have hst := drawN_succ n by'
 have hpl : ∀ k,(intsV (drawN n by' k)).all AV.plain = true := fun k => ints_plain _
 have lbl : (bytesV by').length = by'.length := by simp
 have hg : ∀ i (h : i < by'.length),(bytesV by')[i]? = some (.int .u8 ((by'[i].1 : Nat) : Int)) := fun i h => by
  unfold bytesV;rw [List.getElem?_map,List.getElem?_eq_getElem h]; rfl
 have hs : ∀ i (h : i < by'.length),dsrc n by' i = if by'[i].1 % 16 = 15 then -1 else if 80 ≤ by'[i].1 then ((by'[i].1 % n : Nat) : Int) else (i : Int) := fun i h => by
  unfold dsrc;rw [List.getElem?_eq_getElem h]
 have hno : ∀ i,¬ i < by'.length → dsrc n by' i = (i : Int) := fun i h => by
  unfold dsrc;rw [List.getElem?_eq_none (by omega)]
 generalize bytesV by' = bs at *
 refine Yr (fn:=a53) (k:=2) (res:=[.tmp 4]) rfl rfl rfl (by simp -implicitDefEqProofs(maxSteps:=9^7)(disch:=first|exact Yo rfl|omega|(simp only[go_sem]<;>omega)|fail)only[go_sem]) ?_
 try delta mvA
 try delta opA
 try delta tA
 simp -implicitDefEqProofs(maxSteps:=9^7)(disch:=first|exact Yo rfl|omega|(simp only[go_sem]<;>omega)|fail)only[go_sem]
 repeat(first|apply Ya|apply Yb|apply Yc|((first|apply Yd|apply Ye|apply Yf|apply Yg|apply Yh);simp -implicitDefEqProofs(maxSteps:=9^7)(disch:=first|exact Yo rfl|omega|(simp only[go_sem]<;>omega)|fail)only[go_sem]<;>try with_reducible rfl)|apply Yi|apply Yj|apply Yk|apply Yl|apply Ym|apply Yn)
 apply Yt n (fun i => ⟨[(0,iv (n : Int)),(1,.list 1 bs),(5,.slice 320 0 i),(6,iv (i : Int))],[(320,.arr 1 (intsV (drawN n by' i)))],[],10000000⟩) (fun _ => True)
 ·simp -implicitDefEqProofs(maxSteps:=9^7)(disch:=first|exact Yo rfl|omega|(simp only[go_sem]<;>omega)|fail)only[go_sem,norm_eq,Ok.some]
  rfl
 ·trivial
 intro i hi _;have n1 := hln i;have t1 : (intsV (drawN n by' i)).take i = intsV (drawN n by' i) := List.take_of_length_le (by omega)
 have p1 := hpl i;by_cases h' : i < n
 ·rw [hst i]
  by_cases hl : i < by'.length
  ·have a1 := hg i hl
   have a2 := hs i hl;have e16 : Int.tmod ((by'[i].1 : Nat) : Int) 16 = ((by'[i].1 % 16 : Nat) : Int) := by rw [Int.tmod_eq_emod_of_nonneg (Int.natCast_nonneg _)]; rfl
   have en : Int.tmod ((by'[i].1 : Nat) : Int) (n : Int) = ((by'[i].1 % n : Nat) : Int) := by rw [Int.tmod_eq_emod_of_nonneg (Int.natCast_nonneg _)]; rfl
   have b1 : by'[i].1 < 256 := by'[i].2
   have m16 := Nat.mod_lt by'[i].1 (show 0 < 16 by omega)
   have mn := Nat.mod_lt by'[i].1 (show 0 < n by omega)
   rw [a2];clear hln hst hpl hg hs hno a2;generalize intsV (drawN n by' i) = L at *
   generalize by'[i].1 = v at *
   generalize v % 16 = q at *;generalize v % n = vn at *;by_cases c1 : q = 15
   ·subst c1
    simp only [if_true];repeat(first|apply Ya|apply Yb|apply Yc|((first|apply Yd|apply Ye|apply Yf|apply Yg|apply Yh);simp -implicitDefEqProofs(maxSteps:=9^7)(disch:=first|exact Yo rfl|omega|(simp only[go_sem]<;>omega)|fail)only[go_sem,h',hl,Int.ofNat_lt,lbl,a1,e16,n1,t1,Int.toNat_natCast]<;>try with_reducible rfl)|apply Yi|apply Yj|apply Yk|apply Yl|apply Ym|apply Yn)
    apply Ys
    ·simp -implicitDefEqProofs(maxSteps:=9^7)(disch:=first|exact Yo rfl|omega|(simp only[go_sem]<;>omega)|fail)only[go_sem,norm_eq,Ok.some]; with_reducible rfl
    exact ⟨h',by simp,trivial⟩
   ·rw [if_neg c1]
    have c1' : ¬ (q : Int) = 15 := by omega
    by_cases c2 : 80 ≤ v
    ·rw [if_pos c2]
     repeat(first|apply Ya|apply Yb|apply Yc|((first|apply Yd|apply Ye|apply Yf|apply Yg|apply Yh);simp -implicitDefEqProofs(maxSteps:=9^7)(disch:=first|exact Yo rfl|omega|(simp only[go_sem]<;>omega)|fail)only[go_sem,h',hl,Int.ofNat_lt,lbl,a1,e16,en,c1',n1,t1,Int.toNat_natCast,show (80 : Int) ≤ v by omega,show ¬ (n : Int) = 0 by omega]<;>try with_reducible rfl)|apply Yi|apply Yj|apply Yk|apply Yl|apply Ym|apply Yn)
     apply Ys
     ·simp -implicitDefEqProofs(maxSteps:=9^7)(disch:=first|exact Yo rfl|omega|(simp only[go_sem]<;>omega)|fail)only[go_sem,norm_eq,Ok.some]; with_reducible rfl
     exact ⟨h',by simp,trivial⟩
    ·rw [if_neg c2]
     repeat(first|apply Ya|apply Yb|apply Yc|((first|apply Yd|apply Ye|apply Yf|apply Yg|apply Yh);simp -implicitDefEqProofs(maxSteps:=9^7)(disch:=first|exact Yo rfl|omega|(simp only[go_sem]<;>omega)|fail)only[go_sem,h',hl,Int.ofNat_lt,lbl,a1,e16,c1',n1,t1,Int.toNat_natCast,show ¬ (80 : Int) ≤ v by omega]<;>try with_reducible rfl)|apply Yi|apply Yj|apply Yk|apply Yl|apply Ym|apply Yn)
     apply Ys
     ·simp -implicitDefEqProofs(maxSteps:=9^7)(disch:=first|exact Yo rfl|omega|(simp only[go_sem]<;>omega)|fail)only[go_sem,norm_eq,Ok.some]; with_reducible rfl
     exact ⟨h',by simp,trivial⟩
  ·rw [hno i hl]
   clear hln hst hpl hg hs hno;generalize intsV (drawN n by' i) = L at *
   repeat(first|apply Ya|apply Yb|apply Yc|((first|apply Yd|apply Ye|apply Yf|apply Yg|apply Yh);simp -implicitDefEqProofs(maxSteps:=9^7)(disch:=first|exact Yo rfl|omega|(simp only[go_sem]<;>omega)|fail)only[go_sem,h',hl,Int.ofNat_lt,lbl,n1,t1]<;>try with_reducible rfl)|apply Yi|apply Yj|apply Yk|apply Yl|apply Ym|apply Yn)
   apply Ys
   ·simp -implicitDefEqProofs(maxSteps:=9^7)(disch:=first|exact Yo rfl|omega|(simp only[go_sem]<;>omega)|fail)only[go_sem,norm_eq,Ok.some]; with_reducible rfl
   exact ⟨h',by simp,trivial⟩
 ·obtain rfl : i = n := by omega
  clear hln hst hpl hg hs hno;generalize intsV (drawN i by' i) = L at *
  repeat(first|apply Ya|apply Yb|apply Yc|((first|apply Yd|apply Ye|apply Yf|apply Yg|apply Yh);simp -implicitDefEqProofs(maxSteps:=9^7)(disch:=first|exact Yo rfl|omega|(simp only[go_sem]<;>omega)|fail)only[go_sem,h',Int.ofNat_lt,n1,t1,p1]<;>try with_reducible rfl)|apply Yi|apply Yj|apply Yk|apply Yl|apply Ym|apply Yn)
def idN (n : Nat) : List Int := (List.range n).map fun i : Nat => (i : Int)
theorem idN_succ (k : Nat) : intsV (idN (k + 1)) = intsV (idN k) ++ [iv (k : Int)] := by
 unfold idN intsV;rw [List.range_succ,List.map_append,List.map_append]; rfl
@[simp] theorem idN_len (k : Nat) : (idN k).length = k := by simp [idN]
theorem idN_ok (n : Nat) : DrawOk n (idN n) where
 len := by simp
 rng := fun e he => by
  obtain ⟨w,hw,rfl⟩ := List.mem_map.1 he;have hw := List.mem_range.1 hw;omega
theorem armMixed_nil (n : Nat) (h2 : n ≤ 1000) : lim F 55 [iv (n : Int),.list 1 []] = some (.own 1 (intsV (idN n)),[]) := by
 have hln : ∀ k,(intsV (idN k)).length = k := fun k => by simp [intsV]
 have hst := idN_succ;have hpl : ∀ k,(intsV (idN k)).all AV.plain = true := fun k => ints_plain _
 refine Yr (fn:=a55) (k:=2) (res:=[.tmp 4]) rfl rfl rfl (by simp -implicitDefEqProofs(maxSteps:=9^7)(disch:=first|exact Yo rfl|omega|(simp only[go_sem]<;>omega)|fail)only[go_sem]) ?_
 try delta mvA
 try delta opA
 try delta tA
 simp -implicitDefEqProofs(maxSteps:=9^7)(disch:=first|exact Yo rfl|omega|(simp only[go_sem]<;>omega)|fail)only[go_sem]
 repeat(first|apply Ya|apply Yb|apply Yc|((first|apply Yd|apply Ye|apply Yf|apply Yg|apply Yh);simp -implicitDefEqProofs(maxSteps:=9^7)(disch:=first|exact Yo rfl|omega|(simp only[go_sem]<;>omega)|fail)only[go_sem]<;>try with_reducible rfl)|apply Yi|apply Yj|apply Yk|apply Yl|apply Ym|apply Yn)
 apply Yt n (fun i => ⟨[(0,iv (n : Int)),(1,.list 1 []),(5,.slice 320 0 i),(6,iv (i : Int))],[(320,.arr 1 (intsV (idN i)))],[],10000000⟩) (fun _ => True)
 ·simp -implicitDefEqProofs(maxSteps:=9^7)(disch:=first|exact Yo rfl|omega|(simp only[go_sem]<;>omega)|fail)only[go_sem,norm_eq,Ok.some]
  rfl
 ·trivial
 intro i hi _;have n1 := hln i;have t1 : (intsV (idN i)).take i = intsV (idN i) := List.take_of_length_le (by omega)
 have p1 := hpl i;by_cases h' : i < n
 ·rw [hst i]
  clear hln hst hpl;generalize intsV (idN i) = L at *;repeat(first|apply Ya|apply Yb|apply Yc|((first|apply Yd|apply Ye|apply Yf|apply Yg|apply Yh);simp -implicitDefEqProofs(maxSteps:=9^7)(disch:=first|exact Yo rfl|omega|(simp only[go_sem]<;>omega)|fail)only[go_sem,h',Int.ofNat_lt,n1,t1]<;>try with_reducible rfl)|apply Yi|apply Yj|apply Yk|apply Yl|apply Ym|apply Yn)
  apply Ys
  ·simp -implicitDefEqProofs(maxSteps:=9^7)(disch:=first|exact Yo rfl|omega|(simp only[go_sem]<;>omega)|fail)only[go_sem,norm_eq,Ok.some]; with_reducible rfl
  exact ⟨h',by simp,trivial⟩
 ·obtain rfl : i = n := by omega
  clear hln hst hpl;generalize intsV (idN i) = L at *;repeat(first|apply Ya|apply Yb|apply Yc|((first|apply Yd|apply Ye|apply Yf|apply Yg|apply Yh);simp -implicitDefEqProofs(maxSteps:=9^7)(disch:=first|exact Yo rfl|omega|(simp only[go_sem]<;>omega)|fail)only[go_sem,h',Int.ofNat_lt,n1,t1,p1]<;>try with_reducible rfl)|apply Yi|apply Yj|apply Yk|apply Yl|apply Ym|apply Yn)
  apply Yt 0 (fun k => ⟨[(0,iv (i : Int)),(1,.list 1 []),(5,.slice 320 0 i),(7,iv (k : Int))],[(320,.arr 1 L)],[],10000000⟩) (fun _ => True)
  ·simp -implicitDefEqProofs(maxSteps:=9^7)(disch:=first|exact Yo rfl|omega|(simp only[go_sem]<;>omega)|fail)only[go_sem,norm_eq,Ok.some]
   rfl
  ·trivial
  intro k hk _;obtain rfl : k = 0 := by omega
  repeat(first|apply Ya|apply Yb|apply Yc|((first|apply Yd|apply Ye|apply Yf|apply Yg|apply Yh);simp -implicitDefEqProofs(maxSteps:=9^7)(disch:=first|exact Yo rfl|omega|(simp only[go_sem]<;>omega)|fail)only[go_sem,n1,t1,p1,Int.lt_irrefl]<;>try with_reducible rfl)|apply Yi|apply Yj|apply Yk|apply Yl|apply Ym|apply Yn)
end Go.Abs
set_option linter.all false
namespace Go.Abs
set_option maxRecDepth 10000
set_option maxHeartbeats 4000000
theorem Backward_fun (l : List Int) (h : l.length ≤ 1000) : lim F 112 [.list 1 (intsV l)] = some (.func 159 [.iptr (.agg [.list 1 (intsV l)]) 0],[]) := by
 generalize intsV l = L at *;refine Yr (fn:=a112) (k:=1) (res:=[.tmp 2]) rfl rfl rfl (by simp -implicitDefEqProofs(maxSteps:=9^7)(disch:=first|exact Yo rfl|omega|(simp only[go_sem]<;>omega)|fail)only[go_sem]) ?_
 try delta mvA
 try delta opA
 try delta tA
 simp -implicitDefEqProofs(maxSteps:=9^7)(disch:=first|exact Yo rfl|omega|(simp only[go_sem]<;>omega)|fail)only[go_sem]
 repeat(first|apply Ya|apply Yb|apply Yc|((first|apply Yd|apply Ye|apply Yf|apply Yg|apply Yh);simp -implicitDefEqProofs(maxSteps:=9^7)(disch:=first|exact Yo rfl|omega|(simp only[go_sem]<;>omega)|fail)only[go_sem]<;>try with_reducible rfl)|apply Yi|apply Yj|apply Yk|apply Yl|apply Ym|apply Yn)
theorem Clone_ok (es : List AV) (hp : es.all AV.plain = true) (h : es.length ≤ 1000) (h1 : 1 ≤ es.length) : lim F 111 [.list 1 es] = some (.own 1 es,[]) := by
 have htk : es.take es.length = es := List.take_of_length_le (by omega)
 have hnl : isNilV false (.list 1 es) = some ⟨.bool false,[],[]⟩ := by
  cases es with
  | nil => simp at h1
  | cons x l => rfl
 refine Yr (fn:=a111) (k:=1) (res:=[.tmp 2]) rfl rfl rfl (by simp -implicitDefEqProofs(maxSteps:=9^7)(disch:=first|exact Yo rfl|omega|(simp only[go_sem]<;>omega)|fail)only[go_sem]) ?_
 try delta mvA
 try delta opA
 try delta tA
 simp -implicitDefEqProofs(maxSteps:=9^7)(disch:=first|exact Yo rfl|omega|(simp only[go_sem]<;>omega)|fail)only[go_sem]
 repeat(first|apply Ya|apply Yb|apply Yc|((first|apply Yd|apply Ye|apply Yf|apply Yg|apply Yh);simp -implicitDefEqProofs(maxSteps:=9^7)(disch:=first|exact Yo rfl|omega|(simp only[go_sem]<;>omega)|fail)only[go_sem,htk,hp,hnl]<;>try with_reducible rfl)|apply Yi|apply Yj|apply Yk|apply Yl|apply Ym|apply Yn)
def revI (l : List Int) (i : Nat) : List Int := (List.range l.length).map fun j => if j < i ∨ l.length - 1 - j < i then drAt l (l.length - 1 - j) else drAt l j
@[simp] theorem revI_len (l : List Int) (i : Nat) : (revI l i).length = l.length := by simp [revI]
theorem revI_at {l : List Int} {i j : Nat} (h : j < l.length) : (revI l i)[j]? = some (if j < i ∨ l.length - 1 - j < i then drAt l (l.length - 1 - j) else drAt l j) := by
 unfold revI;rw [List.getElem?_map,List.getElem?_range h]; rfl
theorem dr_elem {l : List Int} {j : Nat} (h : j < l.length) : l[j]? = some (drAt l j) := by
 unfold drAt;rw [List.getD_eq_getElem?_getD,List.getElem?_eq_getElem h]; rfl
theorem revI_zero (l : List Int) : revI l 0 = l := by
 apply List.ext_getElem?;intro j;by_cases h : j < l.length
 ·rw [revI_at h,if_neg (by omega),dr_elem h]
 ·rw [List.getElem?_eq_none (by simp; omega),List.getElem?_eq_none (by omega)]
theorem revI_end (l : List Int) {i : Nat} (h : l.length - 1 - i ≤ i) : revI l i = l.reverse := by
 apply List.ext_getElem?;intro j;by_cases hj : j < l.length
 ·rw [revI_at hj,List.getElem?_reverse hj,dr_elem (by omega)]
  by_cases c : j < i ∨ l.length - 1 - j < i
  ·rw [if_pos c]
  ·rw [if_neg c]
   have : j = l.length - 1 - j := by omega
   rw [← this]
 ·rw [List.getElem?_eq_none (by simp; omega),List.getElem?_eq_none (by simp; omega)]
theorem revI_step (l : List Int) {i : Nat} (h : i < l.length - 1 - i) : ((revI l i).set i (drAt l (l.length - 1 - i))).set (l.length - 1 - i) (drAt l i) = revI l (i + 1) := by
 apply List.ext_getElem?;intro j;by_cases hj : j < l.length
 ·rw [revI_at hj,List.getElem?_set,List.getElem?_set,revI_at hj]
  simp only [List.length_set,revI_len];by_cases c1 : l.length - 1 - i = j
  ·rw [if_pos c1,if_pos (by omega),if_pos (by omega),show l.length - 1 - j = i by omega]
  ·rw [if_neg c1]
   by_cases c2 : i = j
   ·rw [if_pos c2,if_pos (by omega),if_pos (by omega),c2]
   ·rw [if_neg c2]
    by_cases c3 : j < i ∨ l.length - 1 - j < i
    ·rw [if_pos c3,if_pos (by omega)]
    ·rw [if_neg c3,if_neg (by omega)]
 ·rw [List.getElem?_eq_none (by simp; omega),List.getElem?_eq_none (by simp; omega)]
theorem Reverse_ok (l : List Int) (h : l.length ≤ 1000) : lim F 113 [.borS 1 (intsV l)] = some (.tuple [],[.borS 1 (intsV l.reverse)]) := by
 have hln : ∀ i,(intsV (revI l i)).length = l.length := fun i => by simp [intsV]
 have hz := revI_zero l;have hst : ∀ i,i < l.length - 1 - i → ((intsV (revI l i)).set i (iv (drAt l (l.length - 1 - i)))).set (l.length - 1 - i) (iv (drAt l i)) = intsV (revI l (i + 1)) := fun i hi => by
  rw [← revI_step l hi];unfold intsV;rw [List.map_set,List.map_set]
 have hg1 : ∀ i,i < l.length - 1 - i → (intsV (revI l i))[i]? = some (iv (drAt l i)) := fun i hi => by
  unfold intsV;rw [List.getElem?_map,revI_at (by omega),if_neg (by omega)]; rfl
 have hg2 : ∀ i,i < l.length - 1 - i → (intsV (revI l i))[l.length - 1 - i]? = some (iv (drAt l (l.length - 1 - i))) := fun i hi => by
  unfold intsV;rw [List.getElem?_map,revI_at (by omega),if_neg (by omega)]; rfl
 have hE := fun i (hi : l.length - 1 - i ≤ i) => revI_end l hi
 rw [← hz]
 conv => rhs; rw [hz]
 generalize hn : l.length = n at *;have l0 := hln 0;refine Yr (fn:=a113) (k:=1) (res:=[]) rfl rfl rfl (by simp -implicitDefEqProofs(maxSteps:=9^7)(disch:=first|exact Yo rfl|omega|(simp only[go_sem]<;>omega)|fail)only[go_sem]) ?_
 try delta mvA
 try delta opA
 try delta tA
 simp -implicitDefEqProofs(maxSteps:=9^7)(disch:=first|exact Yo rfl|omega|(simp only[go_sem]<;>omega)|fail)only[go_sem]
 repeat(first|apply Ya|apply Yb|apply Yc|((first|apply Yd|apply Ye|apply Yf|apply Yg|apply Yh);simp -implicitDefEqProofs(maxSteps:=9^7)(disch:=first|exact Yo rfl|omega|(simp only[go_sem]<;>omega)|fail)only[go_sem,l0,hn]<;>try with_reducible rfl)|apply Yi|apply Yj|apply Yk|apply Yl|apply Ym|apply Yn)
 apply Yt (n / 2) (fun i => ⟨[(0,.slice 200000 0 n),(2,iv (i : Int)),(3,iv ((n : Int) - 1 - i))],[(200000,.arr 1 (intsV (revI l i)))],[(200000,some n)],10000000⟩) (fun _ => True)
 ·simp -implicitDefEqProofs(maxSteps:=9^7)(disch:=first|exact Yo rfl|omega|(simp only[go_sem]<;>omega)|fail)only[go_sem,norm_eq,Ok.some]
  simp;refine ⟨⟨hn,?_⟩,hn⟩;rw [hn];exact wrap_id (by omega) (by omega)
 ·trivial
 intro i hi _;have n1 := hln i;by_cases h' : i < n / 2
 ·have hi2 : i < n - 1 - i := by omega
  have a1 := hg1 i hi2;have a2 := hg2 i hi2;have a3 := hst i hi2;have e1 : ((n : Int) - 1 - i).toNat = n - 1 - i := by omega
  rw [← a3];clear hln hst hg1 hg2 hE a3;generalize intsV (revI l i) = L at *;have a4 : ∀ X,(L.set i X)[n - 1 - i]? = some (iv (drAt l (n - 1 - i))) := fun X => by rw [List.getElem?_set_ne (by omega)]; exact a2
  repeat(first|apply Ya|apply Yb|apply Yc|((first|apply Yd|apply Ye|apply Yf|apply Yg|apply Yh);simp -implicitDefEqProofs(maxSteps:=9^7)(disch:=first|exact Yo rfl|omega|(simp only[go_sem]<;>omega)|fail)only[go_sem,a4,show (i : Int) < (n : Int) - 1 - i by omega,show (0 : Int) ≤ (n : Int) - 1 - i by omega,show (n : Int) - 1 - i < n by omega,show i < n by omega,Int.ofNat_lt,a1,a2,e1,n1,Int.toNat_natCast]<;>try with_reducible rfl)|apply Yi|apply Yj|apply Yk|apply Yl|apply Ym|apply Yn)
  apply Ys
  ·simp -implicitDefEqProofs(maxSteps:=9^7)(disch:=first|exact Yo rfl|omega|(simp only[go_sem]<;>omega)|fail)only[go_sem,norm_eq,Ok.some]; with_reducible rfl
  refine ⟨h',?_,trivial⟩;simp;omega
 ·have hx := hE i (by omega)
  rw [hx] at n1 ⊢;clear hln hst hg1 hg2 hE;generalize intsV l.reverse = L at *;have t1 : L.take n = L := List.take_of_length_le (by omega)
  repeat(first|apply Ya|apply Yb|apply Yc|((first|apply Yd|apply Ye|apply Yf|apply Yg|apply Yh);simp -implicitDefEqProofs(maxSteps:=9^7)(disch:=first|exact Yo rfl|omega|(simp only[go_sem]<;>omega)|fail)only[go_sem,show ¬ (i : Int) < (n : Int) - 1 - i by omega,n1,t1]<;>try with_reducible rfl)|apply Yi|apply Yj|apply Yk|apply Yl|apply Ym|apply Yn)
theorem Reverse_nil : lim F 113 [.list 1 []] = some (.tuple [],[]) := by
 refine Yr (fn:=a113) (k:=1) (res:=[]) rfl rfl rfl (by simp -implicitDefEqProofs(maxSteps:=9^7)(disch:=first|exact Yo rfl|omega|(simp only[go_sem]<;>omega)|fail)only[go_sem]) ?_
 try delta mvA
 try delta opA
 try delta tA
 simp -implicitDefEqProofs(maxSteps:=9^7)(disch:=first|exact Yo rfl|omega|(simp only[go_sem]<;>omega)|fail)only[go_sem]
 repeat(first|apply Ya|apply Yb|apply Yc|((first|apply Yd|apply Ye|apply Yf|apply Yg|apply Yh);simp -implicitDefEqProofs(maxSteps:=9^7)(disch:=first|exact Yo rfl|omega|(simp only[go_sem]<;>omega)|fail)only[go_sem]<;>try with_reducible rfl)|apply Yi|apply Yj|apply Yk|apply Yl|apply Ym|apply Yn)
 apply Yt 0 (fun i => ⟨[(0,.list 1 []),(2,iv (i : Int)),(3,iv (-1))],[],[],10000000⟩) (fun _ => True)
 ·simp -implicitDefEqProofs(maxSteps:=9^7)(disch:=first|exact Yo rfl|omega|(simp only[go_sem]<;>omega)|fail)only[go_sem,norm_eq,Ok.some]
  rfl
 ·trivial
 intro i hi _;obtain rfl : i = 0 := by omega
 repeat(first|apply Ya|apply Yb|apply Yc|((first|apply Yd|apply Ye|apply Yf|apply Yg|apply Yh);simp -implicitDefEqProofs(maxSteps:=9^7)(disch:=first|exact Yo rfl|omega|(simp only[go_sem]<;>omega)|fail)only[go_sem]<;>try with_reducible rfl)|apply Yi|apply Yj|apply Yk|apply Yl|apply Ym|apply Yn)
def backE (l : List Int) (j : Nat) : List AV := [iv ((l.length - 1 - j : Nat) : Int),iv (drAt l (l.length - 1 - j))]
def backL (l : List Int) (k : Nat) : List (List AV) := (List.range k).map (backE l)
def backR (l : List Int) (i k : Nat) : List (List AV) := (List.range k).map fun j => backE l (i + j)
theorem back_succ (l : List Int) (k : Nat) : backL l (k + 1) = backL l k ++ [backE l k] := by
 unfold backL; rw [List.range_succ,List.map_append]; rfl
theorem backR_succ (l : List Int) (i k : Nat) : backR l i (k + 1) = backE l i :: backR l (i + 1) k := by
 unfold backR;rw [List.range_succ_eq_map,List.map_cons,List.map_map]
 congr 1
 apply List.map_congr_left;intro j _;simp only [Function.comp]
 congr 1
 omega
theorem back_guess (l : List Int) (h : l.length ≤ 1000) : lim F 159 [.ylog none [],.iptr (.agg [.list 1 (intsV l)]) 0] = some (.tuple [],[.ylog none (backL l l.length)]) := by
 have hln : (intsV l).length = l.length := by simp [intsV]
 have hg := fun i (hi : i < l.length) => dr_get (dr := l) hi
 have hst := back_succ l;unfold backE at hst;generalize hn : l.length = n at *;generalize intsV l = L at *;refine Yr (fn:=a159) (k:=2) (res:=[]) rfl rfl rfl (by simp -implicitDefEqProofs(maxSteps:=9^7)(disch:=first|exact Yo rfl|omega|(simp only[go_sem]<;>omega)|fail)only[go_sem]) ?_
 try delta mvA
 try delta opA
 try delta tA
 simp -implicitDefEqProofs(maxSteps:=9^7)(disch:=first|exact Yo rfl|omega|(simp only[go_sem]<;>omega)|fail)only[go_sem]
 repeat(first|apply Ya|apply Yb|apply Yc|((first|apply Yd|apply Ye|apply Yf|apply Yg|apply Yh);simp -implicitDefEqProofs(maxSteps:=9^7)(disch:=first|exact Yo rfl|omega|(simp only[go_sem]<;>omega)|fail)only[go_sem,hln]<;>try with_reducible rfl)|apply Yi|apply Yj|apply Yk|apply Yl|apply Ym|apply Yn)
 apply Yt n (fun i => ⟨[(0,.yieldT 200000),(1,.iptr (.agg [.list 1 L]) 0),(3,iv ((n : Int) - 1 - i))],[(200000,.num 3500000),(3500000,.log none (backL l i))],[(200000,none)],10000000⟩) (fun _ => True)
 ·simp -implicitDefEqProofs(maxSteps:=9^7)(disch:=first|exact Yo rfl|omega|(simp only[go_sem]<;>omega)|fail)only[go_sem,norm_eq,Ok.some]
  simp [backL]
 ·trivial
 intro i hi _;by_cases h' : i < n
 ·have a1 := hg (n - 1 - i) (by omega)
  have a2 := hst i;have e1 : ((n : Int) - 1 - i).toNat = n - 1 - i := by omega
  have e2 : ((n - 1 - i : Nat) : Int) = (n : Int) - 1 - i := by omega
  rw [a2,e2];clear hg hst a2;generalize backL l i = B at *;generalize drAt l (n - 1 - i) = v at *;repeat(first|apply Ya|apply Yb|apply Yc|((first|apply Yd|apply Ye|apply Yf|apply Yg|apply Yh);simp -implicitDefEqProofs(maxSteps:=9^7)(disch:=first|exact Yo rfl|omega|(simp only[go_sem]<;>omega)|fail)only[go_sem,show (n : Int) - 1 - i ≥ 0 by omega,show (0 : Int) ≤ (n : Int) - 1 - i by omega,show (n : Int) - 1 - i < n by omega,a1,e1,hln]<;>try with_reducible rfl)|apply Yi|apply Yj|apply Yk|apply Yl|apply Ym|apply Yn)
  apply Ys
  ·simp -implicitDefEqProofs(maxSteps:=9^7)(disch:=first|exact Yo rfl|omega|(simp only[go_sem]<;>omega)|fail)only[go_sem,norm_eq,Ok.some]; with_reducible rfl
  refine ⟨h',?_,trivial⟩;simp;omega
 ·obtain rfl : i = n := by omega
  clear hg hst;generalize backL l i = B at *;repeat(first|apply Ya|apply Yb|apply Yc|((first|apply Yd|apply Ye|apply Yf|apply Yg|apply Yh);simp -implicitDefEqProofs(maxSteps:=9^7)(disch:=first|exact Yo rfl|omega|(simp only[go_sem]<;>omega)|fail)only[go_sem,show ¬ (i : Int) - 1 - i ≥ 0 by omega,show ¬ (0 : Int) ≤ (i : Int) - 1 - i by omega]<;>try with_reducible rfl)|apply Yi|apply Yj|apply Yk|apply Yl|apply Ym|apply Yn)
theorem back_check (l : List Int) (h : l.length ≤ 1000) : lim F 159 [.ylog (some 0) (backL l l.length),.iptr (.agg [.list 1 (intsV l)]) 0] = some (.tuple [],[.ylog (some 0) []]) := by
 have hln : (intsV l).length = l.length := by simp [intsV]
 have hg := fun i (hi : i < l.length) => dr_get (dr := l) hi
 have hst : ∀ i,i < l.length → backR l i (l.length - i) = backE l i :: backR l (i + 1) (l.length - (i + 1)) := fun i hi => by
  rw [show l.length - i = l.length - (i + 1) + 1 by omega,backR_succ]
 have hz : backL l l.length = backR l 0 (l.length - 0) := by simp [backL,backR]
 rw [hz];unfold backE at hst;generalize hn : l.length = n at *;generalize intsV l = L at *;refine Yr (fn:=a159) (k:=2) (res:=[]) rfl rfl rfl (by simp -implicitDefEqProofs(maxSteps:=9^7)(disch:=first|exact Yo rfl|omega|(simp only[go_sem]<;>omega)|fail)only[go_sem]) ?_
 try delta mvA
 try delta opA
 try delta tA
 simp -implicitDefEqProofs(maxSteps:=9^7)(disch:=first|exact Yo rfl|omega|(simp only[go_sem]<;>omega)|fail)only[go_sem]
 repeat(first|apply Ya|apply Yb|apply Yc|((first|apply Yd|apply Ye|apply Yf|apply Yg|apply Yh);simp -implicitDefEqProofs(maxSteps:=9^7)(disch:=first|exact Yo rfl|omega|(simp only[go_sem]<;>omega)|fail)only[go_sem,hln]<;>try with_reducible rfl)|apply Yi|apply Yj|apply Yk|apply Yl|apply Ym|apply Yn)
 apply Yt n (fun i => ⟨[(0,.yieldT 200000),(1,.iptr (.agg [.list 1 L]) 0),(3,iv ((n : Int) - 1 - i))],[(200000,.num 3500000),(3500000,.log (some 0) (backR l i (n - i)))],[(200000,none)],10000000⟩) (fun _ => True)
 ·simp -implicitDefEqProofs(maxSteps:=9^7)(disch:=first|exact Yo rfl|omega|(simp only[go_sem]<;>omega)|fail)only[go_sem,norm_eq,Ok.some]
  simp
 ·trivial
 intro i hi _;by_cases h' : i < n
 ·have a1 := hg (n - 1 - i) (by omega)
  have a2 := hst i h';have e1 : ((n : Int) - 1 - i).toNat = n - 1 - i := by omega
  have e2 : ((n - 1 - i : Nat) : Int) = (n : Int) - 1 - i := by omega
  rw [a2,e2];clear hg hst a2;generalize backR l (i + 1) (n - (i + 1)) = B at *;generalize drAt l (n - 1 - i) = v at *;have hq : AV.beqL [iv ((n : Int) - 1 - i),iv v] [iv ((n : Int) - 1 - i),iv v] = true := by simp [AV.beqL,AV.beq]
  repeat(first|apply Ya|apply Yb|apply Yc|((first|apply Yd|apply Ye|apply Yf|apply Yg|apply Yh);simp -implicitDefEqProofs(maxSteps:=9^7)(disch:=first|exact Yo rfl|omega|(simp only[go_sem]<;>omega)|fail)only[go_sem,show (n : Int) - 1 - i ≥ 0 by omega,show (0 : Int) ≤ (n : Int) - 1 - i by omega,show (n : Int) - 1 - i < n by omega,a1,e1,hln,hq]<;>try with_reducible rfl)|apply Yi|apply Yj|apply Yk|apply Yl|apply Ym|apply Yn)
  apply Ys
  ·simp -implicitDefEqProofs(maxSteps:=9^7)(disch:=first|exact Yo rfl|omega|(simp only[go_sem]<;>omega)|fail)only[go_sem,norm_eq,Ok.some]; with_reducible rfl
  refine ⟨h',?_,trivial⟩;simp;omega
 ·obtain rfl : i = n := by omega
  have ez : backR l i (i - i) = [] := by simp [backR]
  rw [ez];repeat(first|apply Ya|apply Yb|apply Yc|((first|apply Yd|apply Ye|apply Yf|apply Yg|apply Yh);simp -implicitDefEqProofs(maxSteps:=9^7)(disch:=first|exact Yo rfl|omega|(simp only[go_sem]<;>omega)|fail)only[go_sem,show ¬ (i : Int) - 1 - i ≥ 0 by omega,show ¬ (0 : Int) ≤ (i : Int) - 1 - i by omega]<;>try with_reducible rfl)|apply Yi|apply Yj|apply Yk|apply Yl|apply Ym|apply Yn)
end Go.Abs
set_option linter.all false
namespace Go.Abs
set_option maxRecDepth 10000
theorem pig : ∀ (L M : List Nat),L.Nodup → (∀ x ∈ L,x ∈ M) → L.length ≤ M.length
 | [],M,_,_ => by simp
 | x :: L,M,hn,h => by
  rw [List.nodup_cons] at hn;have hx := h x (by simp)
  have h1 := pig L (M.erase x) hn.2 fun y hy => (List.mem_erase_of_ne (fun e : y = x => hn.1 (by rw [← e]; exact hy))).2 (h y (by simp [hy]))
  rw [List.length_erase_of_mem hx] at h1;have := List.length_pos_of_mem hx;simp only [List.length_cons];omega
structure Seats (ws A U : List Nat) : Prop where
 hk : U.map (hookN ws) = A.map (hookN ws)
 nu : U.Nodup
 na : A.Nodup
 la : ∀ w ∈ A,w < ws.length
theorem Seats.nil (ws : List Nat) : Seats ws [] [] := ⟨rfl,List.nodup_nil,List.nodup_nil,fun _ h => by cases h⟩
theorem Seats.add {ws A U : List Nat} (h : Seats ws A U) {w e : Nat} (hw : w < ws.length) (hwA : w ∉ A) (heU : e ∉ U) (hh : hookN ws e = hookN ws w) : Seats ws (w :: A) (e :: U) where
 hk := by rw [List.map_cons,List.map_cons,h.hk,hh]
 nu := List.nodup_cons.2 ⟨heU,h.nu⟩
 na := List.nodup_cons.2 ⟨hwA,h.na⟩
 la := fun x hx => by
  rcases List.mem_cons.1 hx with rfl | hx
  ·exact hw
  ·exact h.la x hx
theorem seat_free {ws A U : List Nat} (h : Seats ws A U) {w : Nat} (hw : w < ws.length) (hn : w ∉ A) : ∃ e,e < ws.length ∧ hookN ws e = hookN ws w ∧ e ∉ U := by
 apply Classical.byContradiction;intro c;have hall : ∀ e,e < ws.length → hookN ws e = hookN ws w → e ∈ U := fun e h1 h2 => Classical.byContradiction fun h3 => c ⟨e,h1,h2,h3⟩
 have h1 : ((List.range ws.length).filter fun e => decide (hookN ws e = hookN ws w)).length ≤ (U.filter fun e => decide (hookN ws e = hookN ws w)).length := pig _ _ (List.Pairwise.filter _ List.nodup_range) fun x hx => by
  rw [List.mem_filter] at hx ⊢;exact ⟨hall x (List.mem_range.1 hx.1) (of_decide_eq_true hx.2),hx.2⟩
 have h2 : (w :: A.filter fun e => decide (hookN ws e = hookN ws w)).length ≤ ((List.range ws.length).filter fun e => decide (hookN ws e = hookN ws w)).length := pig _ _ (List.nodup_cons.2 ⟨fun hm => hn (List.mem_filter.1 hm).1,List.Pairwise.filter _ h.na⟩) fun x hx => by
  rw [List.mem_filter];rcases List.mem_cons.1 hx with rfl | hx
  ·exact ⟨List.mem_range.2 hw,decide_eq_true rfl⟩
  ·rw [List.mem_filter] at hx
   exact ⟨List.mem_range.2 (h.la x hx.1),hx.2⟩
 have e1 : ∀ L : List Nat,(L.filter fun e => decide (hookN ws e = hookN ws w)).length = ((L.map (hookN ws)).filter fun k => decide (k = hookN ws w)).length := fun L => by
  rw [List.filter_map,List.length_map]; rfl
 have h3 := e1 U;rw [h.hk,← e1 A] at h3;rw [List.length_cons] at h2;omega
theorem kvGet_setE (x k : Int) (v : AV) : ∀ kv,kvGet x (kvSet k v kv) = if k = x then some v else kvGet x kv
 | [] => by simp [kvSet,kvGet]
 | (j,u) :: r => by
  unfold kvSet;by_cases h : j = k
  ·subst h
   by_cases h2 : j = x
   ·simp [kvGet,h2]
   ·simp [kvGet,h2]
  ·rw [if_neg h]
   simp only [kvGet];rw [kvGet_setE x k v r];by_cases h2 : j = x
   ·have : ¬ k = x := fun e => h (h2.trans e.symm)
    simp [h2,this]
   ·simp [h2]
def KvIs (kv : List (Int × AV)) (U : List Nat) : Prop := ∀ e : Nat,kvGet (e : Int) kv = if e ∈ U then some (.bool true) else none
theorem KvIs.nil : KvIs [] [] := fun e => by simp [kvGet]
theorem KvIs.add {kv : List (Int × AV)} {U : List Nat} (h : KvIs kv U) (e : Nat) : KvIs (kvSet (e : Int) (.bool true) kv) (e :: U) := fun x => by
 rw [kvGet_setE,h x];by_cases c : e = x
 ·subst c; simp
 ·rw [if_neg (by omega)]
  by_cases c2 : x ∈ U
  ·rw [if_pos c2,if_pos (by simp [c2])]
  ·rw [if_neg c2,if_neg (by simp [c2]; omega)]
structure Pass1 (ws : List Nat) (dr : List Int) (j : Nat) (kv : List (Int × AV)) (A U W : List Nat) : Prop where
 st : Seats ws A U
 kv : KvIs kv U
 cov : ∀ w,w < ws.length → ws.length ≤ w + j → w ∈ A ∨ w ∈ W
 lo : ∀ w,w ∈ A ∨ w ∈ W → ws.length ≤ w + j ∧ w < ws.length
 nw : W.Nodup
 dis : ∀ w ∈ W,w ∉ A
 rt : ∀ w ∈ A,rightW ws dr w = true
theorem Pass1.zero (ws : List Nat) (dr : List Int) : Pass1 ws dr 0 [] [] [] [] where
 st := .nil ws
 kv := .nil
 cov := fun w h1 h2 => by omega
 lo := fun w h => by simp at h
 nw := List.nodup_nil
 dis := fun w h => by cases h
 rt := fun w h => by cases h
theorem right_hook {ws : List Nat} {dr : List Int} {w : Nat} (h : rightW ws dr w = true) : drAt dr w ≠ -1 ∧ hookN ws (drAt dr w).toNat = hookN ws w := by
 unfold rightW at h;rw [Bool.and_eq_true] at h;exact ⟨of_decide_eq_true h.1,of_decide_eq_true h.2⟩
theorem Pass1.keep {ws : List Nat} {dr : List Int} {j : Nat} {kv : List (Int × AV)} {A U W : List Nat} (h : Pass1 ws dr j kv A U W) {w e : Nat} (hw : w + (j + 1) = ws.length) (hr : rightW ws dr w = true) (he : drAt dr w = (e : Int)) (hu : e ∉ U) :
  Pass1 ws dr (j + 1) (kvSet (e : Int) (.bool true) kv) (w :: A) (e :: U) W where
 st := h.st.add (by omega) (fun hm => by have := h.lo w (.inl hm); omega) hu (by have := (right_hook hr).2; rw [he,Int.toNat_natCast] at this; exact this)
 kv := h.kv.add e
 cov := fun x h1 h2 => by
  by_cases c : x = w
  ·subst c; exact .inl (by simp)
  ·rcases h.cov x h1 (by omega) with hx | hx
   ·exact .inl (by simp [hx])
   ·exact .inr hx
 lo := fun x hx => by
  rcases hx with hx | hx
  ·rcases List.mem_cons.1 hx with rfl | hx
   ·omega
   ·have := h.lo x (.inl hx); omega
  ·have := h.lo x (.inr hx); omega
 nw := h.nw
 dis := fun x hx hm => by
  rcases List.mem_cons.1 hm with rfl | hm
  ·have := h.lo x (.inr hx); omega
  ·exact h.dis x hx hm
 rt := fun x hx => by
  rcases List.mem_cons.1 hx with rfl | hx
  ·exact hr
  ·exact h.rt x hx
theorem Pass1.drop {ws : List Nat} {dr : List Int} {j : Nat} {kv : List (Int × AV)} {A U W : List Nat} (h : Pass1 ws dr j kv A U W) {w : Nat} (hw : w + (j + 1) = ws.length) : Pass1 ws dr (j + 1) kv A U (W ++ [w]) where
 st := h.st
 kv := h.kv
 cov := fun x h1 h2 => by
  by_cases c : x = w
  ·subst c; exact .inr (by simp)
  ·rcases h.cov x h1 (by omega) with hx | hx
   ·exact .inl hx
   ·exact .inr (by simp [hx])
 lo := fun x hx => by
  rcases hx with hx | hx
  ·have := h.lo x (.inl hx); omega
  ·rcases List.mem_append.1 hx with hx | hx
   ·have := h.lo x (.inr hx); omega
   ·have := List.mem_singleton.1 hx; omega
 nw := by
  have h1 : (w :: W).Nodup := List.nodup_cons.2 ⟨fun hm => by have := h.lo w (.inr hm); omega,h.nw⟩
  exact (List.perm_append_singleton w W).nodup_iff.2 h1
 dis := fun x hx hm => by
  rcases List.mem_append.1 hx with hx | hx
  ·exact h.dis x hx hm
  ·have := List.mem_singleton.1 hx
   have := h.lo x (.inl hm); omega
 rt := h.rt
structure Pass2 (ws : List Nat) (R : List Nat) (kv : List (Int × AV)) (A U : List Nat) (af : List Int) : Prop where
 st : Seats ws A U
 kv : KvIs kv U
 len : af.length = ws.length
 rt : ∀ w ∈ A,0 ≤ drAt af w ∧ drAt af w < ws.length ∧ hookN ws (drAt af w).toNat = hookN ws w
 cov : ∀ w,w < ws.length → w ∈ A ∨ w ∈ R
 rl : ∀ w ∈ R,w < ws.length
 nr : R.Nodup
 dis : ∀ w ∈ R,w ∉ A
theorem Pass1.next {ws : List Nat} {dr : List Int} {kv : List (Int × AV)} {A U W : List Nat} (h : Pass1 ws dr ws.length kv A U W) (hd : DrawOk ws.length dr) : Pass2 ws W.reverse kv A U dr where
 st := h.st
 kv := h.kv
 len := hd.len
 rt := fun w hw => by
  have h1 := right_hook (h.rt w hw);have h2 := hd.at (h.st.la w hw);exact ⟨by omega,h2.2,h1.2⟩
 cov := fun w hw => by
  rcases h.cov w hw (by omega) with hx | hx
  ·exact .inl hx
  ·exact .inr (by simp [hx])
 rl := fun w hw => (h.lo w (.inr (List.mem_reverse.1 hw))).2
 nr := (List.reverse_perm W).nodup_iff.2 h.nw
 dis := fun w hw => h.dis w (List.mem_reverse.1 hw)
theorem drAt_set {af : List Int} {w x : Nat} (e : Int) (h : w < af.length) : drAt (af.set w e) x = if w = x then e else drAt af x := by
 unfold drAt;rw [List.getD_eq_getElem?_getD,List.getElem?_set];by_cases c : w = x
 ·subst c; rw [if_pos rfl,if_pos h,if_pos rfl]; rfl
 ·rw [if_neg c,if_neg c,List.getD_eq_getElem?_getD]
theorem Pass2.step {ws R : List Nat} {kv : List (Int × AV)} {A U : List Nat} {af : List Int} {w e : Nat} (h : Pass2 ws (w :: R) kv A U af) (he : e < ws.length) (hh : hookN ws e = hookN ws w) (hu : e ∉ U) :
  Pass2 ws R (kvSet (e : Int) (.bool true) kv) (w :: A) (e :: U) (af.set w (e : Int)) where
 st := h.st.add (h.rl w (by simp)) (h.dis w (by simp)) hu hh
 kv := h.kv.add e
 len := by rw [List.length_set]; exact h.len
 rt := fun x hx => by
  have hw := h.rl w (by simp)
  rw [drAt_set _ (by rw [h.len]; exact hw)]
  by_cases c : w = x
  ·subst c
   rw [if_pos rfl];exact ⟨by omega,by omega,by rw [Int.toNat_natCast]; exact hh⟩
  ·rw [if_neg c]
   rcases List.mem_cons.1 hx with rfl | hx
   ·exact absurd rfl c
   ·exact h.rt x hx
 cov := fun x hx => by
  rcases h.cov x hx with hm | hm
  ·exact .inl (by simp [hm])
  ·rcases List.mem_cons.1 hm with rfl | hm
   ·exact .inl (by simp)
   ·exact .inr hm
 rl := fun x hx => h.rl x (by simp [hx])
 nr := (List.nodup_cons.1 h.nr).2
 dis := fun x hx hm => by
  rcases List.mem_cons.1 hm with rfl | hm
  ·exact (List.nodup_cons.1 h.nr).1 hx
  ·exact h.dis x (by simp [hx]) hm
end Go.Abs
set_option linter.all false
namespace Go.Abs
set_option maxRecDepth 10000
set_option maxHeartbeats 8000000
theorem Pass1.wl {ws : List Nat} {dr : List Int} {j : Nat} {kv : List (Int × AV)} {A U W : List Nat} (h : Pass1 ws dr j kv A U W) : W.length ≤ ws.length := by
 have := pig W (List.range ws.length) h.nw fun x hx => List.mem_range.2 (h.lo x (.inr hx)).2
 rwa [List.length_range] at this
theorem Pass2.done {ws : List Nat} {kv : List (Int × AV)} {A U : List Nat} {af : List Int} (h : Pass2 ws [] kv A U af) : DrawOk ws.length af ∧ ∀ w,w < ws.length → hookN ws (drAt af w).toNat = hookN ws w ∧ 0 ≤ drAt af w := by
 have key : ∀ w,w < ws.length → w ∈ A := fun w hw => by
  rcases h.cov w hw with hx | hx
  ·exact hx
  ·cases hx
 refine ⟨⟨h.len,fun e he => ?_⟩,fun w hw => ?_⟩
 ·obtain ⟨i,hi,rfl⟩ := List.getElem_of_mem he
  have h1 := h.rt i (key i (by rw [← h.len]; exact hi))
  unfold drAt at h1;rw [List.getD_eq_getElem?_getD,List.getElem?_eq_getElem hi] at h1;simp only [Option.getD_some] at h1;omega
 ·have h1 := h.rt w (key w hw)
  exact ⟨h1.2.2,h1.1⟩
theorem Redraw_ok (h : HarN) (ho : h.Ok) (dr : List Int) (hd : DrawOk h.ws.length dr) : ∃ q,lim F 57 [h.av,.list 1 (intsV dr)] = some q ∧ ∃ (W : List Nat) (af : List Int),q = (.tuple [.own 1 (natsV W),.own 1 (intsV af),iv 0],[]) ∧ DrawOk h.ws.length af ∧ ∀ w,w < h.ws.length → hookN h.ws (drAt af w).toNat = hookN h.ws w ∧ 0 ≤ drAt af w := by
 have hc := eCheck_ok h ho dr hd;have w96 := ho.w96;have w1 := ho.w1;have l1 : (intsV dr).length = h.ws.length := by simp [intsV,hd.len]
 have hR := fun w hw => isRight_ok (h.hk : Int) h.ws dr h.ws.length w (by omega) rfl hd hw
 have hB := Backward_fun dr (by rw [hd.len]; omega)
 have hg := back_guess dr (by rw [hd.len]; omega)
 have hk := back_check dr (by rw [hd.len]; omega)
 have hCl := Clone_ok (intsV dr) (ints_plain _) (by omega) (by omega)
 have hpd := ints_plain dr;unfold HarN.av at *;generalize hDV : intsV dr = DV at *;generalize hWV : natsV h.ws = WV at *;generalize hN : h.ws.length = n at *;have hmo : (Value.map none).oneCell' = true := rfl;refine lim_ex (fn := a57) (k := 2) (res := [.cell 4 1 false,.tmp 5,.tmp 6]) rfl rfl rfl (by simp -implicitDefEqProofs(maxSteps:=9^7)(disch:=first|exact Yo rfl|omega|(simp only[go_sem]<;>omega)|fail)only[go_sem]) ?_
 try delta mvA
 try delta opA
 try delta tA
 simp -implicitDefEqProofs(maxSteps:=9^7)(disch:=first|exact Yo rfl|omega|(simp only[go_sem]<;>omega)|fail)only[go_sem]
 repeat(first|apply Ya|apply Yb|apply Yc|((first|apply Yd|apply Ye|apply Yf|apply Yg|apply Yh);simp -implicitDefEqProofs(maxSteps:=9^7)(disch:=first|exact Yo rfl|omega|(simp only[go_sem]<;>omega)|fail)only[go_sem,hc,hCl,hB,l1,hpd,hmo]<;>try with_reducible rfl)|apply Yi|apply Yj|apply Yk|apply Yl|apply Ym|apply Yn)
 refine Wp.rangeF (fun i fr => ∃ kv A U W,fr = ⟨[(2,.ptr 128 0 0),(4,.ptr 256 0 0),(5,.slice 320 0 n),(8,.ptr 512 0 0),(9,.ptr 576 0 0)],[(128,.box [iv (h.hk : Int),.list 1 WV]),(256,.box [.slice 304096 0 (W.length)]),(320,.arr 1 DV),(512,.box [iv (h.hk : Int),.list 1 WV,.list 1 DV]),(576,.box [.mapp 309216]),(304096,.arr 1 (natsV W)),(309216,.mp .i64 kv)],[],10000000⟩ ∧ Pass1 h.ws dr i kv A U W) rfl rfl hg hk ?_ ?_ ?_
 ·simp -implicitDefEqProofs(maxSteps:=9^7)(disch:=first|exact Yo rfl|omega|(simp only[go_sem]<;>omega)|fail)only[go_sem,norm_eq,Ok.some]
  exact ⟨[],[],[],[],rfl,Pass1.zero _ _⟩
 ·rintro j x fr hx ⟨kv,A,U,W,rfl,p1⟩
  have hjn : j < n := by
   rcases Nat.lt_or_ge j n with h | h
   ·exact h
   ·rw [List.getElem?_eq_none (by simp [backL,hd.len]; omega)] at hx; cases hx
  have ex : x = backE dr j := by
   unfold backL at hx;rw [List.getElem?_map,List.getElem?_range (by rw [hd.len]; exact hjn)] at hx
   cases hx; rfl
  subst ex;refine ⟨_,rfl,?_⟩;try rw [hd.len]
  obtain ⟨w,hw⟩ : ∃ w,w = n - 1 - j := ⟨_,rfl⟩;rw [← hw];have hwj : w + (j + 1) = h.ws.length := by omega
  have hwn : w < n := by omega
  have hr := hR w hwn;have hat := hd.at hwn;have n1 : (natsV W).length = W.length := by simp
  have t1 : (natsV W).take W.length = natsV W := List.take_of_length_le (by simp)
  have s2 : natsV (W ++ [w]) = natsV W ++ [iv (w : Int)] := by unfold natsV; rw [List.map_append]; rfl
  have q1 := p1.drop hwj;have q0 := p1.wl;clear hR hB hg hk hCl hpd;rcases Bool.eq_false_or_eq_true (rightW h.ws dr w) with hb | hb
  ·obtain ⟨r1,r2⟩ := right_hook hb
   obtain ⟨e,he⟩ : ∃ e : Nat,drAt dr w = (e : Int) := ⟨(drAt dr w).toNat,by omega⟩
   have hkv := p1.kv e;rw [hb] at hr;by_cases hu : e ∈ U
   ·rw [if_pos hu] at hkv
    rw [he];generalize natsV W = L at *;repeat(first|apply Ya|apply Yb|apply Yc|((first|apply Yd|apply Ye|apply Yf|apply Yg|apply Yh);simp -implicitDefEqProofs(maxSteps:=9^7)(disch:=first|exact Yo rfl|omega|(simp only[go_sem]<;>omega)|fail)only[go_sem,hr,hkv,n1,t1]<;>try with_reducible rfl)|apply Yi|apply Yj|apply Yk|apply Yl|apply Ym|apply Yn)
    apply block_norm;apply Ys
    ·simp -implicitDefEqProofs(maxSteps:=9^7)(disch:=first|exact Yo rfl|omega|(simp only[go_sem]<;>omega)|fail)only[go_sem,norm_eq,Ok.some]; with_reducible rfl
    refine ⟨kv,A,U,W ++ [w],?_,q1⟩;rw [s2];simp
   ·rw [if_neg hu] at hkv
    have q2 := p1.keep hwj hb he hu;rw [he];repeat(first|apply Ya|apply Yb|apply Yc|((first|apply Yd|apply Ye|apply Yf|apply Yg|apply Yh);simp -implicitDefEqProofs(maxSteps:=9^7)(disch:=first|exact Yo rfl|omega|(simp only[go_sem]<;>omega)|fail)only[go_sem,hr,hkv,n1,t1]<;>try with_reducible rfl)|apply Yi|apply Yj|apply Yk|apply Yl|apply Ym|apply Yn)
    apply block_norm;apply Ys
    ·simp -implicitDefEqProofs(maxSteps:=9^7)(disch:=first|exact Yo rfl|omega|(simp only[go_sem]<;>omega)|fail)only[go_sem,norm_eq,Ok.some]; with_reducible rfl
    exact ⟨_,_,_,W,rfl,q2⟩
  ·rw [hb] at hr
   generalize drAt dr w = e at *;generalize natsV W = L at *;repeat(first|apply Ya|apply Yb|apply Yc|((first|apply Yd|apply Ye|apply Yf|apply Yg|apply Yh);simp -implicitDefEqProofs(maxSteps:=9^7)(disch:=first|exact Yo rfl|omega|(simp only[go_sem]<;>omega)|fail)only[go_sem,hr,n1,t1]<;>try with_reducible rfl)|apply Yi|apply Yj|apply Yk|apply Yl|apply Ym|apply Yn)
   apply block_norm;apply Ys
   ·simp -implicitDefEqProofs(maxSteps:=9^7)(disch:=first|exact Yo rfl|omega|(simp only[go_sem]<;>omega)|fail)only[go_sem,norm_eq,Ok.some]; with_reducible rfl
   refine ⟨kv,A,U,W ++ [w],?_,q1⟩;rw [s2];simp
 ·rintro fr ⟨kv,A,U,W,rfl,p1⟩
  rw [show (backL dr dr.length).length = h.ws.length by simp [backL,hd.len,hN]] at p1
  have p2 := p1.next (by rw [hN]; exact hd)
  have hWn : W.length ≤ n := by rw [← hN]; exact p1.wl
  have hRv : lim F 113 [.borS 1 (natsV W)] = some (.tuple [],[.borS 1 (natsV W.reverse)]) := by
   have h1 := Reverse_ok (W.map fun n : Nat => (n : Int)) (by rw [List.length_map]; omega)
   have e1 : ∀ l : List Nat,intsV (l.map fun n : Nat => (n : Int)) = natsV l := fun l => by unfold intsV natsV; rw [List.map_map]; rfl
   rw [e1,← List.map_reverse,e1] at h1;exact h1
  have n1 : (natsV W).length = W.length := by simp
  have n2 : (natsV W.reverse).length = W.length := by simp
  have hRl : W.reverse.length = W.length := by simp
  have t1 : (natsV W).take W.length = natsV W := List.take_of_length_le (by simp)
  have hrg : ∀ i,i < W.length → (natsV W.reverse)[i]? = some (iv ((W.reverse.getD i 0 : Nat) : Int)) := fun i hi => nats_at (by simpa using hi)
  apply block_norm;generalize hWR : W.reverse = R at *;by_cases hW0 : W.length = 0
  ·have hR0 : R = [] := List.length_eq_zero_iff.1 (by omega)
   have hW1 : W = [] := List.length_eq_zero_iff.1 hW0;subst hW1;have hRn := Reverse_nil;repeat(first|apply Ya|apply Yb|apply Yc|((first|apply Yd|apply Ye|apply Yf|apply Yg|apply Yh);simp -implicitDefEqProofs(maxSteps:=9^7)(disch:=first|exact Yo rfl|omega|(simp only[go_sem]<;>omega)|fail)only[go_sem,hRn,show natsV [] = [] from rfl,show ([] : List Nat).length = 0 from rfl]<;>try with_reducible rfl)|apply Yi|apply Yj|apply Yk|apply Yl|apply Ym|apply Yn)
   apply Yt 0 (fun i => ⟨[(2,.ptr 128 0 0),(4,.ptr 256 0 0),(5,.slice 320 0 n),(9,.ptr 576 0 0),(49,.slice 3136 0 0),(50,iv 0),(51,iv (i : Int))],[(128,.box [iv (h.hk : Int),.list 1 WV]),(256,.box [.slice 3136 0 0]),(320,.arr 1 DV),(576,.box [.mapp 309216]),(3136,.arr 1 []),(309216,.mp .i64 kv)],[],10000000⟩) (fun _ => True)
   ·simp -implicitDefEqProofs(maxSteps:=9^7)(disch:=first|exact Yo rfl|omega|(simp only[go_sem]<;>omega)|fail)only[go_sem,norm_eq,Ok.some]
    rfl
   ·trivial
   intro i hi _;obtain rfl : i = 0 := by omega
   repeat(first|apply Ya|apply Yb|apply Yc|((first|apply Yd|apply Ye|apply Yf|apply Yg|apply Yh);simp -implicitDefEqProofs(maxSteps:=9^7)(disch:=first|exact Yo rfl|omega|(simp only[go_sem]<;>omega)|fail)only[go_sem,Int.lt_irrefl,l1]<;>try with_reducible rfl)|apply Yi|apply Yj|apply Yk|apply Yl|apply Ym|apply Yn)
   subst hR0;rw [← hN];refine finp_ret (r := (.tuple [.own 1 (natsV []),.own 1 (intsV dr),iv 0],[])) ?_ ⟨[],dr,rfl,p2.done⟩;rw [hDV];have t3 : DV.take n = DV := List.take_of_length_le (by omega)
   simp -implicitDefEqProofs(maxSteps:=9^7)(disch:=first|exact Yo rfl|omega|(simp only[go_sem]<;>omega)|fail)only[go_sem,l1,t3,hpd,show natsV [] = [] from rfl]
  ·repeat(first|apply Ya|apply Yb|apply Yc|((first|apply Yd|apply Ye|apply Yf|apply Yg|apply Yh);simp -implicitDefEqProofs(maxSteps:=9^7)(disch:=first|exact Yo rfl|omega|(simp only[go_sem]<;>omega)|fail)only[go_sem,hRv,n1,n2,t1,hW0]<;>try with_reducible rfl)|apply Yi|apply Yj|apply Yk|apply Yl|apply Ym|apply Yn)
   generalize hm : W.length = m at *;apply Yu m (fun i fr => ∃ kv A U af,fr = ⟨[(2,.ptr 128 0 0),(4,.ptr 256 0 0),(5,.slice 320 0 n),(9,.ptr 576 0 0),(49,.slice 3136 0 m),(50,iv (m : Int)),(51,iv (i : Int))],[(128,.box [iv (h.hk : Int),.list 1 WV]),(256,.box [.slice 3136 0 m]),(320,.arr 1 (intsV af)),(576,.box [.mapp 309216]),(3136,.arr 1 (natsV R)),(309216,.mp .i64 kv)],[],10000000⟩ ∧ Pass2 h.ws (R.drop i) kv A U af)
   ·simp -implicitDefEqProofs(maxSteps:=9^7)(disch:=first|exact Yo rfl|omega|(simp only[go_sem]<;>omega)|fail)only[go_sem,norm_eq,Ok.some]
    exact ⟨kv,A,U,dr,by rw [hDV]; rfl,p2⟩
   clear p1 p2 hRv hg hk hB hCl;rintro i fr hi ⟨kv,A,U,af,rfl,p2⟩;have laf : (intsV af).length = n := by have := p2.len; simp [intsV]; omega
   by_cases h' : i < m
   ·have g1 := hrg i h'
    have hdrop : R.drop i = R.getD i 0 :: R.drop (i + 1) := by
     rw [List.drop_eq_getElem_cons (by omega),List.getD_eq_getElem?_getD,List.getElem?_eq_getElem (by omega)]; rfl
    rw [hdrop] at p2;obtain ⟨w,hw⟩ : ∃ w,w = R.getD i 0 := ⟨_,rfl⟩;rw [← hw] at g1 p2;have hwn : w < n := by have := p2.rl w (by simp); omega
    have g2 : WV[w]? = some (iv ((hookN h.ws w : Nat) : Int)) := by rw [← hWV]; exact ws_get (by omega)
    have lWV : WV.length = n := by rw [← hWV]; simp [hN]
    repeat(first|apply Ya|apply Yb|apply Yc|((first|apply Yd|apply Ye|apply Yf|apply Yg|apply Yh);simp -implicitDefEqProofs(maxSteps:=9^7)(disch:=first|exact Yo rfl|omega|(simp only[go_sem]<;>omega)|fail)only[go_sem,h',Int.ofNat_lt,g1,n2,lWV,Int.toNat_natCast]<;>try with_reducible rfl)|apply Yi|apply Yj|apply Yk|apply Yl|apply Ym|apply Yn)
    apply Yt n (fun k => ⟨[(2,.ptr 128 0 0),(4,.ptr 256 0 0),(5,.slice 320 0 n),(9,.ptr 576 0 0),(13,iv (w : Int)),(49,.slice 3136 0 m),(50,iv (m : Int)),(51,iv (i : Int)),(56,.list 1 WV),(57,iv (n : Int)),(58,iv (k : Int))],[(128,.box [iv (h.hk : Int),.list 1 WV]),(256,.box [.slice 3136 0 m]),(320,.arr 1 (intsV af)),(576,.box [.mapp 309216]),(3136,.arr 1 (natsV R)),(309216,.mp .i64 kv)],[],10000000⟩) (fun k => ∀ e,e < k → hookN h.ws e = hookN h.ws w → e ∈ U)
    ·simp -implicitDefEqProofs(maxSteps:=9^7)(disch:=first|exact Yo rfl|omega|(simp only[go_sem]<;>omega)|fail)only[go_sem,norm_eq,Ok.some]
     rfl
    ·intro e he; omega
    intro k hk hinv;by_cases h2 : k < n
    ·have g3 : WV[k]? = some (iv ((hookN h.ws k : Nat) : Int)) := by rw [← hWV]; exact ws_get (by omega)
     have hkv := p2.kv k;by_cases c1 : hookN h.ws k = hookN h.ws w
     ·by_cases c2 : k ∈ U
      ·rw [if_pos c2] at hkv
       rw [c1] at g3;generalize hookN h.ws w = hx at *;repeat(first|apply Ya|apply Yb|apply Yc|((first|apply Yd|apply Ye|apply Yf|apply Yg|apply Yh);simp -implicitDefEqProofs(maxSteps:=9^7)(disch:=first|exact Yo rfl|omega|(simp only[go_sem]<;>omega)|fail)only[go_sem,h2,h',Int.ofNat_lt,g2,g3,hkv,lWV,hwn,Int.toNat_natCast]<;>try with_reducible rfl)|apply Yi|apply Yj|apply Yk|apply Yl|apply Ym|apply Yn)
       apply Ys
       ·simp -implicitDefEqProofs(maxSteps:=9^7)(disch:=first|exact Yo rfl|omega|(simp only[go_sem]<;>omega)|fail)only[go_sem,norm_eq,Ok.some]; with_reducible rfl
       refine ⟨h2,by simp,fun e he q => ?_⟩
       by_cases ce : e = k
       ·rw [ce]; exact c2
       ·exact hinv e (by omega) q
      ·rw [if_neg c2] at hkv
       have q2 := p2.step (by omega) c1 c2
       rw [c1] at g3;have g4 := dr_get (dr := af) (w := w) (by have := p2.len; omega)
       have s1 : (intsV af).set w (iv (k : Int)) = intsV (af.set w (k : Int)) := by unfold intsV; rw [List.map_set]
       clear hinv;generalize hookN h.ws w = hx at *;repeat(first|apply Ya|apply Yb|apply Yc|((first|apply Yd|apply Ye|apply Yf|apply Yg|apply Yh);simp -implicitDefEqProofs(maxSteps:=9^7)(disch:=first|exact Yo rfl|omega|(simp only[go_sem]<;>omega)|fail)only[go_sem,h2,h',Int.ofNat_lt,g2,g3,g4,hkv,lWV,laf,hwn,s1,Int.toNat_natCast]<;>try with_reducible rfl)|apply Yi|apply Yj|apply Yk|apply Yl|apply Ym|apply Yn)
       apply Ys
       ·simp -implicitDefEqProofs(maxSteps:=9^7)(disch:=first|exact Yo rfl|omega|(simp only[go_sem]<;>omega)|fail)only[go_sem,norm_eq,Ok.some]; with_reducible rfl
       refine ⟨h',_,_,_,_,?_,q2⟩;simp
     ·have c1' : ¬ ((hookN h.ws k : Nat) : Int) = ((hookN h.ws w : Nat) : Int) := by omega
      repeat(first|apply Ya|apply Yb|apply Yc|((first|apply Yd|apply Ye|apply Yf|apply Yg|apply Yh);simp -implicitDefEqProofs(maxSteps:=9^7)(disch:=first|exact Yo rfl|omega|(simp only[go_sem]<;>omega)|fail)only[go_sem,h2,h',Int.ofNat_lt,g2,g3,c1',lWV,hwn,Int.toNat_natCast]<;>try with_reducible rfl)|apply Yi|apply Yj|apply Yk|apply Yl|apply Ym|apply Yn)
      apply Ys
      ·simp -implicitDefEqProofs(maxSteps:=9^7)(disch:=first|exact Yo rfl|omega|(simp only[go_sem]<;>omega)|fail)only[go_sem,norm_eq,Ok.some]; with_reducible rfl
      refine ⟨h2,by simp,fun e he q => ?_⟩
      by_cases ce : e = k
      ·rw [ce] at q; exact absurd q c1
      ·exact hinv e (by omega) q
    ·exfalso
     obtain ⟨e,h5,h6,h7⟩ := seat_free p2.st (w := w) (by omega) (p2.dis w (by simp))
     exact h7 (hinv e (by omega) h6)
   ·obtain rfl : i = m := by omega
    repeat(first|apply Ya|apply Yb|apply Yc|((first|apply Yd|apply Ye|apply Yf|apply Yg|apply Yh);simp -implicitDefEqProofs(maxSteps:=9^7)(disch:=first|exact Yo rfl|omega|(simp only[go_sem]<;>omega)|fail)only[go_sem,h',Int.ofNat_lt,n2]<;>try with_reducible rfl)|apply Yi|apply Yj|apply Yk|apply Yl|apply Ym|apply Yn)
    rw [List.drop_of_length_le (by omega)] at p2
    rw [← hN];refine finp_ret (r := (.tuple [.own 1 (natsV R),.own 1 (intsV af),iv 0],[])) ?_ ⟨R,af,rfl,p2.done⟩;have t3 : (intsV af).take n = intsV af := List.take_of_length_le (by omega)
    have t4 : (natsV R).take i = natsV R := List.take_of_length_le (by omega)
    have p4 := ints_plain af;have p5 := nat_plain R;generalize intsV af = AV1 at *;generalize natsV R = RV1 at *;simp -implicitDefEqProofs(maxSteps:=9^7)(disch:=first|exact Yo rfl|omega|(simp only[go_sem]<;>omega)|fail)only[go_sem,n2,laf,t3,t4,p4,p5]
end Go.Abs
