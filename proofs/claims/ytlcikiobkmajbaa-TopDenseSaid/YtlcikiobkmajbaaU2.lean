/-
 The tops: take-ups in bytes, and copies of them. No condition beyond those that each theorem names.
-/
import Derived.Test.YtlcikiobkmajbaaG6
import Derived.Test.YtlcikiobkmajbaaU1
import Derived.Test.YtlcikiobkmajbaaFlat
set_option linter.all false
namespace Go.Abs
set_option maxRecDepth 10000
set_option maxHeartbeats 2000000
open Go.Abs.Beam (TakeA PairT checkT longT longR nT dT tmod_nat tdiv_nat)
def pubT (a b c d : Nat) : TakeA:=⟨20 + (a % 81 : Nat),1 + (b % 5 : Nat),[⟨10 + (c % 91 : Nat),10 + (d % 91 : Nat)⟩],100000 + 1000 * (a : Int)⟩
theorem pubT_ok (a b c d : Nat) (ha : a < 256) : checkT (pubT a b c d) = 0:=by
 unfold checkT;rw [if_neg (by simp [pubT]),if_pos]
 refine ⟨⟨by simp only [pubT]; omega,by simp only [pubT]; omega,by simp only [pubT]; omega⟩,fun p hp => ?_⟩
 rw [List.mem_singleton.1 hp];exact ⟨by simp only; omega,by simp only; omega⟩
theorem pubSpan_ok (a b : Int) : lim F 14 [iv a,iv b] = some (.agg [iv a,iv b],[]):=by
 refine Yr (fn:=a14) (k:=2) (res:=[.cell 4 2 true]) rfl rfl rfl (by simp -implicitDefEqProofs(maxSteps:=9^7)(disch:=first|exact Yo rfl|omega|(simp only[go_sem]<;>omega)|fail)only[go_sem]) ?_
 try delta mvA
 try delta opA
 try delta tA
 simp -implicitDefEqProofs(maxSteps:=9^7)(disch:=first|exact Yo rfl|omega|(simp only[go_sem]<;>omega)|fail)only[go_sem]
 repeat(first|apply Ya|apply Yb|apply Yc|((first|apply Yd|apply Ye|apply Yf|apply Yg|apply Yh);simp -implicitDefEqProofs(maxSteps:=9^7)(disch:=first|exact Yo rfl|omega|(simp only[go_sem]<;>omega)|fail)only[go_sem]<;>try with_reducible rfl)|apply Yi|apply Yj|apply Yk|apply Yl|apply Ym|apply Yn)
theorem pubTake_ok (a b c d : Nat) (ha : a < 256) (hb : b < 256) (hc : c < 256) (hd : d < 256) : lim F 8 [.agg [.int .u8 (a : Int),.int .u8 (b : Int),.int .u8 (c : Int),.int .u8 (d : Int)]] = some (.agg [iv (pubT a b c d).rat,iv (pubT a b c d).step,.own 2 ((pubT a b c d).pairs.map PairT.av),iv (pubT a b c d).round],[]):=by
 have e0:=tmod_nat a 81;have e1:=tmod_nat b 5;have e2:=tmod_nat c 91;have e3:=tmod_nat d 91;rw [show ((81 : Nat) : Int) = 81 from rfl] at e0
 rw [show ((5 : Nat) : Int) = 5 from rfl] at e1
 rw [show ((91 : Nat) : Int) = 91 from rfl] at e2 e3
 unfold pubT;refine Yr (fn:=a8) (k:=1) (res:=[.cell 2 4 true]) rfl rfl rfl (by simp -implicitDefEqProofs(maxSteps:=9^7)(disch:=first|exact Yo rfl|omega|(simp only[go_sem]<;>omega)|fail)only[go_sem]) ?_
 try delta mvA
 try delta opA
 try delta tA
 simp -implicitDefEqProofs(maxSteps:=9^7)(disch:=first|exact Yo rfl|omega|(simp only[go_sem]<;>omega)|fail)only[go_sem]
 repeat(first|apply Ya|apply Yb|apply Yc|((first|apply Yd|apply Ye|apply Yf|apply Yg|apply Yh);simp -implicitDefEqProofs(maxSteps:=9^7)(disch:=first|exact Yo rfl|omega|(simp only[go_sem]<;>omega)|fail)only[go_sem,e0,e1,e2,e3,PairT.av.eq_1]<;>try with_reducible rfl)|apply Yi|apply Yj|apply Yk|apply Yl|apply Ym|apply Yn)
theorem pubGear_ok (t : TakeA) (hl : t.pairs.length≤1000) : lim F 10 [t.av] = some (.agg [iv t.rat,iv t.step,.own 2 (t.pairs.map PairT.av),iv t.round],[]):=by
 have hln : (t.pairs.map PairT.av).length = t.pairs.length:=by simp
 have htk : (t.pairs.map PairT.av).take t.pairs.length = t.pairs.map PairT.av:=List.take_of_length_le (by simp)
 unfold TakeA.av;generalize t.pairs.map PairT.av = ps at *;refine Yr (fn:=a10) (k:=1) (res:=[.cell 2 4 true]) rfl rfl rfl (by simp -implicitDefEqProofs(maxSteps:=9^7)(disch:=first|exact Yo rfl|omega|(simp only[go_sem]<;>omega)|fail)only[go_sem]) ?_
 try delta mvA
 try delta opA
 try delta tA
 simp -implicitDefEqProofs(maxSteps:=9^7)(disch:=first|exact Yo rfl|omega|(simp only[go_sem]<;>omega)|fail)only[go_sem]
 repeat(first|apply Ya|apply Yb|apply Yc|((first|apply Yd|apply Ye|apply Yf|apply Yg|apply Yh);simp -implicitDefEqProofs(maxSteps:=9^7)(disch:=first|exact Yo rfl|omega|(simp only[go_sem]<;>omega)|fail)only[go_sem,hln,htk]<;>try with_reducible rfl)|apply Yi|apply Yj|apply Yk|apply Yl|apply Ym|apply Yn)
end Go.Abs
