/-
 Chapter 1: designs beside and above each other, and point repeats. No condition beyond those that each theorem names.
-/
import Derived.Test.YtgpbjihpkoiaiaaV3
import Derived.Test.YtgpbjihpkoiaiaaM9a
set_option linter.all false
namespace Go.Abs
set_option maxRecDepth 10000
set_option maxHeartbeats 4000000
def firstE : List DesA → Int
 | [] => 0
 | d :: l => if checkD d ≠ 0 then checkD d else firstE l
def besE (a b : DesA) : Int := if firstE [a,b] ≠ 0 then firstE [a,b] else if a.rows.length ≠ b.rows.length then 4 else if a.hk + b.hk > 24 then 8 else 0
def aboE (a b : DesA) : Int := if firstE [a,b] ≠ 0 then firstE [a,b] else if a.hk ≠ b.hk then 4 else if a.rows.length + b.rows.length > 60 then 8 else 0
def refE (a : DesA) : Int := if firstE [a] ≠ 0 then firstE [a] else if a.hk + max 0 (a.hk - 2) > 24 then 8 else 0
theorem reflA_ok (d : DesN) (hd : d.Ok) (H p h : Nat) (hH : H ≤ 1000) (hp : p ≤ 1000) (hh : h ≤ H) : lim F 105 [iv (p : Int),iv (h : Int),.iptr (desV d) 0,.iptr (.agg [iv (H : Int)]) 0] = some (.bool (atN d p (min h (H - h))),[]) := by
 have a1 := at_ok d hd p (min h (H - h)) (by omega) (by omega)
 have e1 : max (0 : Int) ((H : Int) - (h : Int)) = ((H - h : Nat) : Int) := by omega
 have e2 : min (h : Int) ((H - h : Nat) : Int) = ((min h (H - h) : Nat) : Int) := by omega
 unfold desV;change lim F _ [.agg [_,.list 1 (natsV d.rows)],_,_] = _ at a1;generalize natsV d.rows = rs at *;generalize min h (H - h) = m at *;refine Yr (fn:=a105) (k:=4) (res:=[.tmp 6]) rfl rfl rfl (by simp -implicitDefEqProofs(maxSteps:=9^7)(disch:=first|exact Yo rfl|omega|(simp only[go_sem]<;>omega)|fail)only[go_sem]) ?_
 try delta mvA
 try delta opA
 try delta tA
 simp -implicitDefEqProofs(maxSteps:=9^7)(disch:=first|exact Yo rfl|omega|(simp only[go_sem]<;>omega)|fail)only[go_sem]
 repeat(first|apply Ya|apply Yb|apply Yc|((first|apply Yd|apply Ye|apply Yf|apply Yg|apply Yh);simp -implicitDefEqProofs(maxSteps:=9^7)(disch:=first|exact Yo rfl|omega|(simp only[go_sem]<;>omega)|fail)only[go_sem,e1,e2,a1]<;>try with_reducible rfl)|apply Yi|apply Yj|apply Yk|apply Yl|apply Ym|apply Yn)
theorem Reflect_ok (d : DesN) (hd : d.Ok) (hh : reflH d ≤ 24) : lim F 49 [d.av] = some (.tuple [(reflectN d).out,iv 0],[]) := by
 have h24 := hd.h24;have h60 := hd.r60;have hh1 := hd.h1;have hc := Check_ok d.a (by simp [DesN.a]; omega)
 rw [checkD_ok hd,DesN.a_av] at hc;have hM := made2_ok d.rows.length (reflH d) 105 (desV d) (.agg [iv (reflH d : Int)]) (fun p h => atN d p (min h (reflH d - h))) (by omega) hh (fun p h hp hh' => reflA_ok d hd (reflH d) p h (by omega) (by omega) (by omega))
 have hpl := nat_plain (reflectN d).rows;have hln : (natsV (reflectN d).rows).length = d.rows.length := by simp [reflectN,madeN]
 have hln2 : (natsV d.rows).length = d.rows.length := by simp
 have e1 : (natsV (reflectN d).rows).take d.rows.length = natsV (reflectN d).rows := List.take_of_length_le (by omega)
 have hres : (reflectN d).out = .agg [iv (reflH d : Int),.own 1 (natsV (reflectN d).rows)] := rfl;rw [hres];change lim F _ _ = some (AV.agg [iv (reflH d : Int),.own 1 (natsV (reflectN d).rows)],[]) at hM;change (natsV (reflectN d).rows).all AV.plain = true at hpl;have em : (d.hk : Int) + max (0 : Int) ((d.hk : Int) - 2) = (reflH d : Int) := by unfold reflH; omega
 unfold DesN.av desV at *;change lim F _ [.agg [_,.list 1 (natsV d.rows)]] = _ at hc;change lim F _ [.agg [_,.list 1 (natsV d.rows)]] = _;generalize natsV (reflectN d).rows = es at *;generalize natsV d.rows = rg at *;generalize reflH d = H at *;refine Yr (fn:=a49) (k:=1) (res:=[.cell 2 2 true,.tmp 3]) rfl rfl rfl (by simp -implicitDefEqProofs(maxSteps:=9^7)(disch:=first|exact Yo rfl|omega|(simp only[go_sem]<;>omega)|fail)only[go_sem]) ?_
 try delta mvA
 try delta opA
 try delta tA
 simp -implicitDefEqProofs(maxSteps:=9^7)(disch:=first|exact Yo rfl|omega|(simp only[go_sem]<;>omega)|fail)only[go_sem]
 repeat(first|apply Ya|apply Yb|apply Yc|((first|apply Yd|apply Ye|apply Yf|apply Yg|apply Yh);simp -implicitDefEqProofs(maxSteps:=9^7)(disch:=first|exact Yo rfl|omega|(simp only[go_sem]<;>omega)|fail)only[go_sem,hc,em,hM,hpl,hln,hln2,e1,show ¬ (24 : Int) < (H : Int) by omega]<;>try with_reducible rfl)|apply Yi|apply Yj|apply Yk|apply Yl|apply Ym|apply Yn)
end Go.Abs
