/-
 TopDense: the law. No condition beyond those that each theorem names.
-/
import Derived.Test.YtlcikiobkmajbaaPB
set_option linter.all false
namespace Go.Abs
set_option maxRecDepth 10000
set_option maxHeartbeats 8000000
open Go.Abs.Beam (TakeA PairT checkT nT dT tmod_nat picksOf picksE numT denT gT)
theorem dense_main (kb : lim F 17 [] = some (.bool true,[])) (kp : lim F 32 [] = some (.bool true,[])) (a b c d e f g h n : Nat) (ha : a < 256) (hb : b < 256) (hc : c < 256) (hd : d < 256) (he : e < 256) (hf : f < 256) (hg : g < 256) (hh : h < 256) (hn : n < 65536) :
  lim F 6 [.agg [.int .u8 (a : Int),.int .u8 (b : Int),.int .u8 (c : Int),.int .u8 (d : Int)],.agg [.int .u8 (e : Int),.int .u8 (f : Int),.int .u8 (g : Int),.int .u8 (h : Int)],.int .u16 (n : Int)] = some (.bool true,[]):=by
 have m4:=Nat.mod_lt b (show 0 < 4 by omega)
 have hT:=pubTake_ok a b c d ha hb hc hd;have hP:=pubPrices_ok e f g h he hf hg hh;have hL:=pubList_ok (e : Int) (1 + (f % 60 : Nat)) ((e : Int) + (g : Int)) (h : Int) ((4 * f % 1001 : Nat) : Int);have mf:=Nat.mod_lt f (show 0 < 60 by omega)
 have mq:=Nat.mod_lt (4 * f) (show 0 < 1001 by omega)
 have hpr : PriceOk (e : Int) (1 + (f % 60 : Nat)) ((e : Int) + (g : Int)) (h : Int) ((4 * f % 1001 : Nat) : Int):=⟨by omega,by omega,by omega,by omega,by omega⟩
 obtain ⟨q1,q2,q3,q4,q5⟩:=dense_num a b c d (by omega)
 have k1:=pubT_ok a (b % 4) c d ha;have k2:=pubT_ok a (b % 4 + 1) c d ha;have s1 : (pubT a (b % 4) c d).step = 1 + (b % 4 : Nat):=by
  unfold pubT;dsimp only;omega
 have s2 : (pubT a (b % 4 + 1) c d).step = 2 + (b % 4 : Nat):=by
  unfold pubT;dsimp only;omega
 have p1 : (pubT a (b % 4) c d).pairs = (pubT a b c d).pairs:=rfl;have p2 : (pubT a (b % 4 + 1) c d).pairs = (pubT a b c d).pairs:=rfl;have r1 : (pubT a (b % 4) c d).rat = (pubT a b c d).rat:=rfl;have r2 : (pubT a (b % 4 + 1) c d).rat = (pubT a b c d).rat:=rfl;have o1 : (pubT a (b % 4) c d).round = (pubT a b c d).round:=rfl;have o2 : (pubT a (b % 4 + 1) c d).round = (pubT a b c d).round:=rfl;have l1 : ((pubT a b c d).pairs.map PairT.av).length = 1:=rfl;have g1:=pubGear_ok (pubT a (b % 4) c d) (by simp [pubT])
 have g2:=pubGear_ok (pubT a (b % 4 + 1) c d) (by simp [pubT])
 have bs : 1≤(pubT a b c d).step∧(pubT a b c d).step≤5:=by
  have:=Nat.mod_lt b (show 0 < 5 by omega)
  unfold pubT;dsimp only;omega
 have hPk1 : ∀ x : Int,0≤x → x≤10000000000 → lim F 9 [(pubT a (b % 4) c d).av,iv x] = some (.tuple [iv (picksOf (pubT a (b % 4) c d) x),iv 0],[]):=fun x h0 h1 => by
  have e : picksE (pubT a (b % 4) c d) x = 0:=by unfold picksE; rw [if_pos k1,if_pos ⟨h0,h1⟩]
  have:=Beam.Picks_ok (pubT a (b % 4) c d) x;rw [e,if_pos rfl] at this;exact this
 have hPk2 : ∀ x : Int,0≤x → x≤10000000000 → lim F 9 [(pubT a (b % 4 + 1) c d).av,iv x] = some (.tuple [iv (picksOf (pubT a (b % 4 + 1) c d) x),iv 0],[]):=fun x h0 h1 => by
  have e : picksE (pubT a (b % 4 + 1) c d) x = 0:=by unfold picksE; rw [if_pos k2,if_pos ⟨h0,h1⟩]
  have:=Beam.Picks_ok (pubT a (b % 4 + 1) c d) x;rw [e,if_pos rfl] at this;exact this
 have A1:=hPk1 25400 (by omega) (by omega)
 have A2:=hPk2 25400 (by omega) (by omega)
 have A3:=hPk1 (10 * (n : Int)) (by omega) (by omega)
 have A4:=hPk2 (10 * (n : Int)) (by omega) (by omega)
 have L1:=picks_less k1 k2 q1 q2 (n:=25400) (by omega)
 have L2:=picks_less k1 k2 q1 q2 (n:=10 * (n : Int)) (by omega)
 have B1:=(Beam.picks_bound k2 (n:=25400) (by omega)).2.1
 have B2:=(Beam.picks_bound k2 (n:=10 * (n : Int)) (by omega)).2.1
 have T1:=picks_top k1 q3 q5 (n:=25400) (m:=1000) (by omega) (by omega)
 have T2:=picks_top k1 q3 q5 (n:=10 * (n : Int)) (m:=1000000) (by omega) (by omega)
 unfold TakeA.av at g1 g2 A1 A2 A3 A4;rw [s1,p1,r1,o1] at g1 A1 A3;rw [s2,p2,r2,o2] at g2 A2 A4;clear hPk1 hPk2 k1 k2 s1 s2 p1 p2 r1 r2 o1 o2 q1 q2 q3 q4 q5;generalize picksOf (pubT a (b % 4) c d) 25400 = w1 at *;generalize picksOf (pubT a (b % 4 + 1) c d) 25400 = w2 at *;generalize picksOf (pubT a (b % 4) c d) (10 * (n : Int)) = w3 at *;generalize picksOf (pubT a (b % 4 + 1) c d) (10 * (n : Int)) = w4 at *;have W1:=Wage_ok hpr (a:=w1) (c:=w3) (by omega) (by omega)
 have W2:=Wage_ok hpr (a:=w2) (c:=w3) (by omega) (by omega)
 have W3:=Wage_ok hpr (a:=w2) (c:=w4) (by omega) (by omega)
 have M1 : rateN (1 + (f % 60 : Nat)) (e : Int) ((e : Int) + (g : Int)) w2≤rateN (1 + (f % 60 : Nat)) (e : Int) ((e : Int) + (g : Int)) w1:=by
  unfold rateN;split <;> split <;> omega
 have M0:=(rate_in hpr w2).1;have E1:=earn_mono (c:=w3) (d:=w3) (Int.le_refl _) M1 (by omega) M0
 have E2:=earn_mono (c:=w3) (d:=w4) L2 (Int.le_refl (rateN (1 + (f % 60 : Nat)) (e : Int) ((e : Int) + (g : Int)) w2)) (by omega) M0
 generalize earnN w3 (rateN (1 + (f % 60 : Nat)) (e : Int) ((e : Int) + (g : Int)) w1) = z1 at *;generalize earnN w3 (rateN (1 + (f % 60 : Nat)) (e : Int) ((e : Int) + (g : Int)) w2) = z2 at *;generalize earnN w4 (rateN (1 + (f % 60 : Nat)) (e : Int) ((e : Int) + (g : Int)) w2) = z3 at *;have e4:=tmod_nat b 4;rw [show ((4 : Nat) : Int) = 4 from rfl] at e4
 have lt1 : ((pubT a b c d).pairs.map PairT.av).take 1 = (pubT a b c d).pairs.map PairT.av:=List.take_of_length_le (by omega)
 have lp1 : ((pubT a b c d).pairs.map PairT.av).all AV.plain = true:=rfl;have lpr : (prV (e : Int) (1 + (f % 60 : Nat)) ((e : Int) + (g : Int))).length = 2:=rfl;have tpr : (prV (e : Int) (1 + (f % 60 : Nat)) ((e : Int) + (g : Int))).take 2 = prV (e : Int) (1 + (f % 60 : Nat)) ((e : Int) + (g : Int)):=rfl;have ppr : (prV (e : Int) (1 + (f % 60 : Nat)) ((e : Int) + (g : Int))).all AV.plain = true:=rfl;unfold priceV at hL W1 W2 W3;unfold pieceV at W1 W2 W3;generalize (pubT a b c d).pairs.map PairT.av = PV at *;generalize (pubT a b c d).rat = rat at *;generalize (pubT a b c d).step = stp at *;generalize (pubT a b c d).round = rnd at *;generalize prV (e : Int) (1 + (f % 60 : Nat)) ((e : Int) + (g : Int)) = RV at *;generalize b % 4 = s at *;generalize 4 * f % 1001 = cp at *;have e5 : (1 : Int) + (s : Int) + 1 = 2 + (s : Int):=by omega
 refine Yr (fn:=a6) (k:=3) (res:=[.tmp 6]) rfl rfl rfl (by simp -implicitDefEqProofs(maxSteps:=9^7)(disch:=first|exact Yo rfl|omega|(simp only[go_sem]<;>omega)|fail)only[go_sem]) ?_
 try delta mvA
 try delta opA
 try delta tA
 simp -implicitDefEqProofs(maxSteps:=9^7)(disch:=first|exact Yo rfl|omega|(simp only[go_sem]<;>omega)|fail)only[go_sem]
 repeat(first|apply Ya|apply Yb|apply Yc|((first|apply Yd|apply Ye|apply Yf|apply Yg|apply Yh);simp -implicitDefEqProofs(maxSteps:=9^7)(disch:=first|exact Yo rfl|omega|(simp only[go_sem]<;>omega)|fail)only[go_sem,nil_one,hT,hP,e4,e5,g1,g2,A1,A2,A3,A4,l1,lt1,lp1,lpr,tpr,ppr,hL,W1,W2,W3,kb,kp,show ¬ w1 < w2 by omega,show ¬ w3 < w4 by omega,show ¬ w2 < 0 by omega,show ¬ w4 < 0 by omega,show ¬ (1000 : Int) < w1 by omega,show ¬ (1000000 : Int) < w3 by omega,E1,E2]<;>try with_reducible rfl)|apply Yi|apply Yj|apply Yk|apply Yl|apply Ym|apply Yn)
end Go.Abs
