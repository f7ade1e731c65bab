/-
 TopDense: closer cloth is paid better. No condition beyond those that each theorem names.
-/
import Derived.Test.YtlcikiobkmajbaaPA
import Derived.Test.YtlcikiobkmajbaaU2
import Derived.Test.YtlcikiobkmajbaaG6
set_option linter.all false
namespace Go.Abs
set_option maxRecDepth 10000
set_option maxHeartbeats 8000000
open Go.Abs.Beam (TakeA PairT checkT nT dT tmod_nat picksOf picksE numT denT gT)
theorem picks_raw {t : TakeA} (h : checkT t = 0) {n : Int} : picksOf t n = n * denT t / numT t:=by
 have hb:=Beam.numT_bound h;have hg:=Beam.gT_pos h;have e1 : numT t = nT t * (gT t : Int):=by
  have:=Nat.div_mul_cancel (Nat.gcd_dvd_left (numT t).toNat (denT t).toNat);unfold nT gT;rw [← Int.natCast_mul,this]; omega
 have e2 : denT t = dT t * (gT t : Int):=by
  have:=Nat.div_mul_cancel (Nat.gcd_dvd_right (numT t).toNat (denT t).toNat);unfold dT gT;rw [← Int.natCast_mul,this]; omega
 unfold picksOf;rw [e1,e2,← Int.mul_assoc,Int.mul_ediv_mul_of_pos_left _ _ (by omega)]
theorem dense_num (a b c d : Nat) (hb : b % 4 + 1≤4) : denT (pubT a (b % 4 + 1) c d) = denT (pubT a (b % 4) c d)∧numT (pubT a (b % 4) c d)≤numT (pubT a (b % 4 + 1) c d)∧1000000≤numT (pubT a (b % 4) c d)∧1≤denT (pubT a (b % 4) c d)∧denT (pubT a (b % 4) c d)≤10000:=by
 have e1 : b % 4 % 5 = b % 4:=Nat.mod_eq_of_lt (by omega)
 have e2 : (b % 4 + 1) % 5 = b % 4 + 1:=Nat.mod_eq_of_lt (by omega)
 unfold denT numT pubT;simp only [Beam.denP,Beam.numP,Int.mul_one,e1,e2];have h1:=Nat.mod_lt a (show 0 < 81 by omega)
 have h2:=Nat.mod_lt d (show 0 < 91 by omega)
 generalize b % 4 = s at *;generalize hx : (10 + ((c % 91 : Nat) : Int)) = x at *;have hx0 : 10≤x:=by omega
 have q1 : (100000 + 1000 * (a : Int)) * (1 + (s : Int))≤(100000 + 1000 * (a : Int)) * (1 + ((s + 1 : Nat) : Int)):=Int.mul_le_mul_of_nonneg_left (by omega) (by omega)
 have q2:=Int.mul_le_mul (show (100000 : Int)≤100000 + 1000 * (a : Int) by omega) (show (1 : Int)≤1 + (s : Int) by omega) (by omega) (by omega)
 have q3:=Int.mul_le_mul_of_nonneg_right q1 (show 0≤x by omega)
 have q4:=Int.mul_le_mul q2 hx0 (by omega) (show 0≤(100000 + 1000 * (a : Int)) * (1 + (s : Int)) by omega)
 have q5:=Int.mul_le_mul (show (20 + ((a % 81 : Nat) : Int))≤100 by omega) (show (10 + ((d % 91 : Nat) : Int))≤100 by omega) (by omega) (by omega)
 have q6:=Int.mul_le_mul (show (20 : Int)≤20 + ((a % 81 : Nat) : Int) by omega) (show (10 : Int)≤10 + ((d % 91 : Nat) : Int) by omega) (by omega) (by omega)
 exact ⟨trivial,q3,by omega,by omega,by omega⟩
theorem picks_less {t u : TakeA} (ht : checkT t = 0) (hu : checkT u = 0) (h1 : denT u = denT t) (h2 : numT t≤numT u) {n : Int} (hn : 0≤n) : picksOf u n≤picksOf t n:=by
 rw [picks_raw ht,picks_raw hu,h1];have b1:=(Beam.numT_bound ht);have b2:=(Beam.numT_bound hu);have h3:=Int.mul_nonneg hn (show 0≤denT t by omega)
 generalize n * denT t = q at *;have h4:=Int.ediv_nonneg h3 (show 0≤numT u by omega)
 have h5:=Int.ediv_mul_le q (show numT u ≠ 0 by omega)
 have h6:=Int.mul_le_mul_of_nonneg_left h2 h4;exact Int.le_ediv_of_mul_le (by omega) (by omega)
theorem picks_top {t : TakeA} (ht : checkT t = 0) (h1 : 1000000≤numT t) (h2 : denT t≤10000) {n m : Int} (hn : 0≤n) (hm : n≤100 * m) : picksOf t n≤m:=by
 rw [picks_raw ht];have b1:=(Beam.numT_bound ht);refine Int.ediv_le_of_le_mul (by omega) ?_
 have h3:=Int.mul_le_mul hm h2 (by omega) (by omega)
 have h4:=Int.mul_le_mul_of_nonneg_left h1 (show 0≤m by omega)
 omega
theorem pubPrices_ok (a b c d : Nat) (ha : a < 256) (hb : b < 256) (hc : c < 256) (hd : d < 256) : lim F 29 [.agg [.int .u8 (a : Int),.int .u8 (b : Int),.int .u8 (c : Int),.int .u8 (d : Int)]] = some (.agg [.own 2 (prV (a : Int) (1 + (b % 60 : Nat)) ((a : Int) + (c : Int))),.own 1 [],iv (d : Int),iv ((4 * b % 1001 : Nat) : Int)],[]):=by
 have e1:=tmod_nat b 60;rw [show ((60 : Nat) : Int) = 60 from rfl] at e1
 have e2 : Int.tmod (4 * (b : Int)) 1001 = ((4 * b % 1001 : Nat) : Int):=by rw [Int.tmod_eq_emod_of_nonneg (by omega)]; omega
 have m1:=Nat.mod_lt b (show 0 < 60 by omega)
 unfold prV;generalize b % 60 = f at *;generalize 4 * b % 1001 = cp at *;refine Yr (fn:=a29) (k:=1) (res:=[.cell 2 4 true]) rfl rfl rfl (by simp -implicitDefEqProofs(maxSteps:=9^7)(disch:=first|exact Yo rfl|omega|(simp only[go_sem]<;>omega)|fail)only[go_sem]) ?_
 try delta mvA
 try delta opA
 try delta tA
 simp -implicitDefEqProofs(maxSteps:=9^7)(disch:=first|exact Yo rfl|omega|(simp only[go_sem]<;>omega)|fail)only[go_sem]
 repeat(first|apply Ya|apply Yb|apply Yc|((first|apply Yd|apply Ye|apply Yf|apply Yg|apply Yh);simp -implicitDefEqProofs(maxSteps:=9^7)(disch:=first|exact Yo rfl|omega|(simp only[go_sem]<;>omega)|fail)only[go_sem,e1,e2]<;>try with_reducible rfl)|apply Yi|apply Yj|apply Yk|apply Yl|apply Ym|apply Yn)
theorem pubList_ok (r0 f1 r1 fine cap : Int) : lim F 31 [priceV r0 f1 r1 fine cap] = some (.agg [.own 2 (prV r0 f1 r1),.own 1 [],iv fine,iv cap],[]):=by
 unfold priceV prV;refine Yr (fn:=a31) (k:=1) (res:=[.cell 2 4 true]) rfl rfl rfl (by simp -implicitDefEqProofs(maxSteps:=9^7)(disch:=first|exact Yo rfl|omega|(simp only[go_sem]<;>omega)|fail)only[go_sem]) ?_
 try delta mvA
 try delta opA
 try delta tA
 simp -implicitDefEqProofs(maxSteps:=9^7)(disch:=first|exact Yo rfl|omega|(simp only[go_sem]<;>omega)|fail)only[go_sem]
 repeat(first|apply Ya|apply Yb|apply Yc|((first|apply Yd|apply Ye|apply Yf|apply Yg|apply Yh);simp -implicitDefEqProofs(maxSteps:=9^7)(disch:=first|exact Yo rfl|omega|(simp only[go_sem]<;>omega)|fail)only[go_sem,List.length_cons,List.length_nil]<;>try with_reducible rfl)|apply Yi|apply Yj|apply Yk|apply Yl|apply Ym|apply Yn)
end Go.Abs
