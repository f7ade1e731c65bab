/-
 TopMirrored: both edges. No condition beyond those that each theorem names.
-/
import Derived.Test.YtgpbjihpkoiaiaaTB
import Derived.Test.YtgpbjihpkoiaiaaMH
set_option linter.all false
namespace Go.Abs
set_option maxRecDepth 10000
set_option maxHeartbeats 8000000
theorem mirrored_main (kp : lim F 41 [] = some (.bool true,[])) (kt : lim F 14 [] = some (.bool true,[])) (x : LoomB) (s : Nat) (hs : s < 256) :
  lim F 7 [x.av,.int .u8 (s : Int)] = some (.bool true,[]) := by
 have hd := arm_ok x;have hrw := arm_rows x;have hD := armDesign_ok x;have h12 : (armN x).hk ≤ 12 := by unfold armN; dsimp only; omega
 unfold LoomB.av at *;generalize bytesV x.warps = ws at *;generalize wordsV x.rows = es at *;generalize bytesV x.cards = cs at *;generalize (x.hooks.1 : Int) = hk0 at *;generalize armN x = d at *;have hh1 := hd.h1;have e2 : Int.tmod (s : Int) 2 = ((s % 2 : Nat) : Int) := by rw [Int.tmod_eq_emod_of_nonneg (Int.natCast_nonneg _)]; rfl
 have m2 := Nat.mod_lt s (show 0 < 2 by omega)
 generalize s % 2 = q2 at *;obtain ⟨t,ht⟩ : ∃ t,t = 1 + q2 := ⟨_,rfl⟩;have hti : (1 : Int) + (q2 : Int) = (t : Int) := by omega
 have ht2 : t = 1 ∨ t = 2 := by omega
 have hR1 := refH_pos hh1;have hR2 : refH d.hk ≤ 22 := by unfold refH; omega
 have hn44 : t * refH d.hk ≤ 44 := Nat.mul_le_mul (show t ≤ 2 by omega) hR2
 have hn1 : 1 ≤ t * refH d.hk := Nat.mul_pos (by omega) hR1
 have hO := armOwn_ok d (by omega)
 have hMP := Make_point d.hk t hh1 h12 ht2;have hMS := Make_refl d.hk t hh1 h12 ht2;have hMi := Mirrors_point d.hk t hh1 h12 ht2;have hBe := Beside_point d.hk t hh1 h12 ht2;have hRf := Reflect_ok d hd (show reflH d ≤ 24 by unfold reflH; omega)
 have hP1 := point_ok (t := t) hh1 hd.h24 (by omega) (by omega)
 have hP2 := straight_ok (hk := refH d.hk) (t := t) hR1 (by omega) (by omega) (by omega)
 have hP3 : (⟨d.hk,pntW d.hk t ++ pntW d.hk t⟩ : HarN).Ok := ⟨hh1,hd.h24,by simp; omega,by simp; omega,fun w hw => by
  rcases List.mem_append.1 hw with h | h
  ·exact hP1.lt w h
  ·exact hP1.lt w h⟩
 have hT := armTied_ok (d.hk : Int) (pntW d.hk t) (by simp; omega)
 have hW1 := tWeave_ok _ hP1 d hd rfl;have hW2 := tWeave_ok _ hP2 (reflectN d) (refl_ok hd h12) rfl;have hF1 := tFloats_ok _ hP1 d hd rfl 1 (by omega)
 have hF2 := tFloats_ok _ hP3 d hd rfl 1 (by omega)
 dsimp only at hW1 hW2 hF1 hF2;rw [cloth_refl hd t] at hW2;have hmx := beside_same 1 d.rows (pntW d.hk t) (by simp; omega)
 have hk1 : keepF 1 (flTo (clothR d.rows (pntW d.hk t)) floatW d.rows.length) = (keptF 1 (flTo (clothR d.rows (pntW d.hk t)) floatW d.rows.length)).map FloatT.av := rfl;have hk2 : keepF 1 (flTo (clothR d.rows (pntW d.hk t ++ pntW d.hk t)) floatW d.rows.length) = (keptF 1 (flTo (clothR d.rows (pntW d.hk t ++ pntW d.hk t)) floatW d.rows.length)).map FloatT.av := rfl;have hkp1 := keepF_plain 1 (flTo (clothR d.rows (pntW d.hk t)) floatW d.rows.length);have hkp2 := keepF_plain 1 (flTo (clothR d.rows (pntW d.hk t ++ pntW d.hk t)) floatW d.rows.length);have hl1 : (keptF 1 (flTo (clothR d.rows (pntW d.hk t)) floatW d.rows.length)).length ≤ 100000 := by
  have h1 := List.length_filter_le (fun f : FloatT => decide (1 < f.len)) (flTo (clothR d.rows (pntW d.hk t)) floatW d.rows.length)
  have h2 := flTo_len (clothR d.rows (pntW d.hk t)) (fun p => by simp [clothR]; omega) d.rows.length
  unfold keptF;omega
 have hl2 : (keptF 1 (flTo (clothR d.rows (pntW d.hk t ++ pntW d.hk t)) floatW d.rows.length)).length ≤ 100000 := by
  have h1 := List.length_filter_le (fun f : FloatT => decide (1 < f.len)) (flTo (clothR d.rows (pntW d.hk t ++ pntW d.hk t)) floatW d.rows.length)
  have h2 := flTo_len (clothR d.rows (pntW d.hk t ++ pntW d.hk t)) (fun p => by simp [clothR]; omega) d.rows.length
  unfold keptF;omega
 rw [hk1] at hF1 hkp1;rw [hk2] at hF2 hkp2;clear hk1 hk2;generalize keptF 1 (flTo (clothR d.rows (pntW d.hk t)) floatW d.rows.length) = F1 at *;generalize keptF 1 (flTo (clothR d.rows (pntW d.hk t ++ pntW d.hk t)) floatW d.rows.length) = F2 at *;have hLk : lim F 26 [.list 1 (clothV d.rows (pntW d.hk t)),.list 1 (clothV d.rows (pntW d.hk t))] = some (.bool true,[]) := by
  have := armLike_ok (d.rows.map fun r => pickB r (pntW d.hk t)) (by simp; omega)
  rw [List.map_map] at this;exact this
 have hpk : ∀ r w,w < t * refH d.hk → (pickB r (pntW d.hk t)).getD ((t * refH d.hk - w) % (t * refH d.hk)) 0 = (pickB r (pntW d.hk t)).getD w 0 := fun r w hw => pick_sym r hh1 ht2 hw
 have hpl : ∀ r,(pickB r (pntW d.hk t)).length = t * refH d.hk := fun r => by simp
 have hg : ∀ p,p < d.rows.length → (clothV d.rows (pntW d.hk t))[p]? = some (strA (pickB (d.rows.getD p 0) (pntW d.hk t))) := fun p hp => cloth_at hp
 have hbad := cloth_bad (ws := pntW d.hk t) hrw.1;have c1 : (clothV d.rows (pntW d.hk t)).length = d.rows.length := by simp
 have u1 : (clothV d.rows (pntW d.hk t)).take d.rows.length = clothV d.rows (pntW d.hk t) := List.take_of_length_le (by omega)
 have lr : (reflectN d).rows.length = d.rows.length := by simp [reflectN,madeN]
 have ld : (natsV d.rows).length = d.rows.length := by simp
 have lR : (natsV (reflectN d).rows).length = d.rows.length := by simp [lr]
 have lP : (natsV (pntW d.hk t)).length = t * refH d.hk := by simp
 have lS : (natsV (strW (refH d.hk) t)).length = t * refH d.hk := by simp [strW_len]
 have l2 : (natsV (pntW d.hk t ++ pntW d.hk t)).length = t * refH d.hk + t * refH d.hk := by simp
 have pd : (natsV d.rows).all AV.plain = true := nat_plain _;have pR : (natsV (reflectN d).rows).all AV.plain = true := nat_plain _;have pP : (natsV (pntW d.hk t)).all AV.plain = true := nat_plain _;have pS : (natsV (strW (refH d.hk) t)).all AV.plain = true := nat_plain _;have p2 : (natsV (pntW d.hk t ++ pntW d.hk t)).all AV.plain = true := nat_plain _;have td : (natsV d.rows).take d.rows.length = natsV d.rows := List.take_of_length_le (by omega)
 have tR : (natsV (reflectN d).rows).take d.rows.length = natsV (reflectN d).rows := List.take_of_length_le (by omega)
 have tP : (natsV (pntW d.hk t)).take (t * refH d.hk) = natsV (pntW d.hk t) := List.take_of_length_le (by omega)
 have tS : (natsV (strW (refH d.hk) t)).take (t * refH d.hk) = natsV (strW (refH d.hk) t) := List.take_of_length_le (by omega)
 have t2 : (natsV (pntW d.hk t ++ pntW d.hk t)).take (t * refH d.hk + t * refH d.hk) = natsV (pntW d.hk t ++ pntW d.hk t) := List.take_of_length_le (by omega)
 unfold HarN.av DesN.av at *;unfold DesN.out at hRf;dsimp only at hW1 hW2 hF1 hF2;have er : (reflectN d).hk = refH d.hk := rfl;rw [er] at hRf hW2;change lim F _ [_,.agg [_,.list 1 (natsV d.rows)]] = _ at hW1;change lim F _ [_,.agg [_,.list 1 (natsV (reflectN d).rows)]] = _ at hW2;change lim F _ [_,.agg [_,.list 1 (natsV d.rows)],_] = _ at hF1 hF2;change lim F _ [.agg [_,.list 1 (natsV d.rows)]] = some (AV.tuple [.agg [_,.own 1 (natsV (reflectN d).rows)],_],[]) at hRf;generalize clothV d.rows (pntW d.hk t) = C at *;generalize natsV (pntW d.hk t ++ pntW d.hk t) = TV at *;generalize natsV (pntW d.hk t) = PV at *;generalize natsV (strW (refH d.hk) t) = SV at *;generalize natsV (reflectN d).rows = RV at *;generalize natsV d.rows = DV at *;generalize hRR : refH d.hk = R at *;generalize hNN : t * R = N at *;generalize hM : d.rows.length = M at *;generalize hH : d.hk = H at *;refine Yr (fn:=a7) (k:=2) (res:=[.tmp 4]) rfl rfl rfl (by simp -implicitDefEqProofs(maxSteps:=9^7)(disch:=first|exact Yo rfl|omega|(simp only[go_sem]<;>omega)|fail)only[go_sem]) ?_
 try delta mvA
 try delta opA
 try delta tA
 simp -implicitDefEqProofs(maxSteps:=9^7)(disch:=first|exact Yo rfl|omega|(simp only[go_sem]<;>omega)|fail)only[go_sem]
 repeat(first|apply Ya|apply Yb|apply Yc|((first|apply Yd|apply Ye|apply Yf|apply Yg|apply Yh);simp -implicitDefEqProofs(maxSteps:=9^7)(disch:=first|exact Yo rfl|omega|(simp only[go_sem]<;>omega)|fail)only[go_sem,hD,hO,ld,pd,td,e2,hti,hMP,lP,pP,tP,hRf,lR,pR,tR,hMS,lS,pS,tS,hT,hW1,hW2,hMi,c1,u1,hbad,hLk,show ¬ (R : Int) < 1 by omega,show ¬ (24 : Int) < R by omega]<;>try with_reducible rfl)|apply Yi|apply Yj|apply Yk|apply Yl|apply Ym|apply Yn)
 apply Yt M (fun p => ⟨[(5,.ptr 320 0 0),(6,.ptr 384 0 0),(14,.slice 896 0 M),(20,iv (N : Int)),(21,iv (p : Int))],[(320,.box [iv (H : Int),.slice 305121 0 M]),(384,.box [iv (H : Int),.slice 306145 0 N]),(896,.arr 1 C),(305121,.arr 1 DV),(306145,.arr 1 PV)],[],10000000⟩) (fun _ => True)
 ·simp -implicitDefEqProofs(maxSteps:=9^7)(disch:=first|exact Yo rfl|omega|(simp only[go_sem]<;>omega)|fail)only[go_sem,norm_eq,Ok.some]
  rfl
 ·trivial
 intro p hp _;by_cases h3 : p < M
 ·have f1 := hg p h3
  have s1 := hpk (d.rows.getD p 0);have l1 := hpl (d.rows.getD p 0);clear hg hpk hpl;generalize pickB (d.rows.getD p 0) (pntW H t) = sb at *;repeat(first|apply Ya|apply Yb|apply Yc|((first|apply Yd|apply Ye|apply Yf|apply Yg|apply Yh);simp -implicitDefEqProofs(maxSteps:=9^7)(disch:=first|exact Yo rfl|omega|(simp only[go_sem]<;>omega)|fail)only[go_sem,h3,Int.ofNat_lt,f1,c1,l1,Int.toNat_natCast]<;>try with_reducible rfl)|apply Yi|apply Yj|apply Yk|apply Yl|apply Ym|apply Yn)
  apply Yt N (fun w => ⟨[(5,.ptr 320 0 0),(6,.ptr 384 0 0),(14,.slice 896 0 M),(20,iv (N : Int)),(21,iv (p : Int)),(22,iv (w : Int))],[(320,.box [iv (H : Int),.slice 305121 0 M]),(384,.box [iv (H : Int),.slice 306145 0 N]),(896,.arr 1 C),(305121,.arr 1 DV),(306145,.arr 1 PV)],[],10000000⟩) (fun _ => True)
  ·simp -implicitDefEqProofs(maxSteps:=9^7)(disch:=first|exact Yo rfl|omega|(simp only[go_sem]<;>omega)|fail)only[go_sem,norm_eq,Ok.some]
   rfl
  ·trivial
  intro w hw _;by_cases h4 : w < N
  ·have g1 := s1 w h4
   have g2 := Nat.mod_lt (N - w) (show 0 < N by omega)
   have ew : Int.tmod ((N : Int) - (w : Int)) (N : Int) = (((N - w) % N : Nat) : Int) := by
    rw [show (N : Int) - (w : Int) = ((N - w : Nat) : Int) by omega,Int.tmod_eq_emod_of_nonneg (by omega)]; rfl
   clear s1;generalize (N - w) % N = v at *;repeat(first|apply Ya|apply Yb|apply Yc|((first|apply Yd|apply Ye|apply Yf|apply Yg|apply Yh);simp -implicitDefEqProofs(maxSteps:=9^7)(disch:=first|exact Yo rfl|omega|(simp only[go_sem]<;>omega)|fail)only[go_sem,h3,h4,g2,Int.ofNat_lt,f1,c1,l1,ew,g1,Int.toNat_natCast,bne_self_eq_false,show ¬ (N : Int) = 0 by omega]<;>try with_reducible rfl)|apply Yi|apply Yj|apply Yk|apply Yl|apply Ym|apply Yn)
   apply Ys
   ·simp -implicitDefEqProofs(maxSteps:=9^7)(disch:=first|exact Yo rfl|omega|(simp only[go_sem]<;>omega)|fail)only[go_sem,norm_eq,Ok.some]; with_reducible rfl
   exact ⟨h4,by simp,trivial⟩
  ·obtain rfl : w = N := by omega
   repeat(first|apply Ya|apply Yb|apply Yc|((first|apply Yd|apply Ye|apply Yf|apply Yg|apply Yh);simp -implicitDefEqProofs(maxSteps:=9^7)(disch:=first|exact Yo rfl|omega|(simp only[go_sem]<;>omega)|fail)only[go_sem,h3,h4,Int.ofNat_lt]<;>try with_reducible rfl)|apply Yi|apply Yj|apply Yk|apply Yl|apply Ym|apply Yn)
   apply Ys
   ·simp -implicitDefEqProofs(maxSteps:=9^7)(disch:=first|exact Yo rfl|omega|(simp only[go_sem]<;>omega)|fail)only[go_sem,norm_eq,Ok.some]; with_reducible rfl
   exact ⟨h3,by simp,trivial⟩
 obtain rfl : p = M := by omega
 have lF1 : (F1.map FloatT.av).length = F1.length := by simp
 have lF2 : (F2.map FloatT.av).length = F2.length := by simp
 have tF1 : (F1.map FloatT.av).take F1.length = F1.map FloatT.av := List.take_of_length_le (by simp)
 have tF2 : (F2.map FloatT.av).take F2.length = F2.map FloatT.av := List.take_of_length_le (by simp)
 have gF1 : ∀ i (h : i < F1.length),(F1.map FloatT.av)[i]? = some (.agg [iv F1[i].pick,iv F1[i].hook,iv F1[i].len,.bool F1[i].up]) := fun i h => by
  rw [List.getElem?_map,List.getElem?_eq_getElem h]; rfl
 have gF2 : ∀ i (h : i < F2.length),(F2.map FloatT.av)[i]? = some (.agg [iv F2[i].pick,iv F2[i].hook,iv F2[i].len,.bool F2[i].up]) := fun i h => by
  rw [List.getElem?_map,List.getElem?_eq_getElem h]; rfl
 clear hg hpk hpl hW1 hW2 hMi hMP hMS hRf hD hLk;generalize F1.map FloatT.av = V1 at *;generalize F2.map FloatT.av = V2 at *;repeat(first|apply Ya|apply Yb|apply Yc|((first|apply Yd|apply Ye|apply Yf|apply Yg|apply Yh);simp -implicitDefEqProofs(maxSteps:=9^7)(disch:=first|exact Yo rfl|omega|(simp only[go_sem]<;>omega)|fail)only[go_sem,h3,Int.ofNat_lt,hT,lP,pP,tP,hBe,l2,p2,t2,hO,ld,pd,td,hF1,lF1,tF1,hkp1,hF2,lF2,tF2,hkp2]<;>try with_reducible rfl)|apply Yi|apply Yj|apply Yk|apply Yl|apply Ym|apply Yn)
 clear hF1 hF2 hT hBe hO;apply Yt F1.length (fun k => ⟨[(24,iv 0),(25,.slice 1600 0 F1.length),(26,iv 0),(27,.slice 1728 0 F2.length),(28,iv 0),(29,.ptr 1856 0 0),(30,iv (k : Int))],[(1600,.arr 4 V1),(1728,.arr 4 V2),(1856,.box [iv (mxL (F1.take k)),iv 0])],[],10000000⟩) (fun _ => True)
 ·simp -implicitDefEqProofs(maxSteps:=9^7)(disch:=first|exact Yo rfl|omega|(simp only[go_sem]<;>omega)|fail)only[go_sem,norm_eq,Ok.some]
  rfl
 ·trivial
 intro k hk _;by_cases h4 : k < F1.length
 ·have g1 := gF1 k h4
  have g2 := mxL_take h4;rw [g2];clear gF1 gF2 g2;generalize mxL (F1.take k) = m at *;generalize F1[k] = f at *;repeat(first|apply Ya|apply Yb|apply Yc|((first|apply Yd|apply Ye|apply Yf|apply Yg|apply Yh);simp -implicitDefEqProofs(maxSteps:=9^7)(disch:=first|exact Yo rfl|omega|(simp only[go_sem]<;>omega)|fail)only[go_sem,h4,Int.ofNat_lt,g1,lF1,Int.toNat_natCast]<;>try with_reducible rfl)|apply Yi|apply Yj|apply Yk|apply Yl|apply Ym|apply Yn)
  apply Ys
  ·simp -implicitDefEqProofs(maxSteps:=9^7)(disch:=first|exact Yo rfl|omega|(simp only[go_sem]<;>omega)|fail)only[go_sem,norm_eq,Ok.some]; with_reducible rfl
  exact ⟨h4,by simp,trivial⟩
 obtain rfl : k = F1.length := by omega
 rw [List.take_length];repeat(first|apply Ya|apply Yb|apply Yc|((first|apply Yd|apply Ye|apply Yf|apply Yg|apply Yh);simp -implicitDefEqProofs(maxSteps:=9^7)(disch:=first|exact Yo rfl|omega|(simp only[go_sem]<;>omega)|fail)only[go_sem,h4,Int.ofNat_lt,lF1]<;>try with_reducible rfl)|apply Yi|apply Yj|apply Yk|apply Yl|apply Ym|apply Yn)
 apply Yt F2.length (fun k => ⟨[(24,iv 0),(26,iv 0),(27,.slice 1728 0 F2.length),(28,iv 0),(29,.ptr 1856 0 0),(31,iv (k : Int))],[(1728,.arr 4 V2),(1856,.box [iv (mxL F1),iv (mxL (F2.take k))])],[],10000000⟩) (fun _ => True)
 ·simp -implicitDefEqProofs(maxSteps:=9^7)(disch:=first|exact Yo rfl|omega|(simp only[go_sem]<;>omega)|fail)only[go_sem,norm_eq,Ok.some]
  rfl
 ·trivial
 intro k hk _;by_cases h5 : k < F2.length
 ·have g1 := gF2 k h5
  have g2 := mxL_take h5;rw [g2];clear gF1 gF2 g2;generalize mxL (F2.take k) = m at *;generalize F2[k] = f at *;repeat(first|apply Ya|apply Yb|apply Yc|((first|apply Yd|apply Ye|apply Yf|apply Yg|apply Yh);simp -implicitDefEqProofs(maxSteps:=9^7)(disch:=first|exact Yo rfl|omega|(simp only[go_sem]<;>omega)|fail)only[go_sem,h5,Int.ofNat_lt,g1,lF2,Int.toNat_natCast]<;>try with_reducible rfl)|apply Yi|apply Yj|apply Yk|apply Yl|apply Ym|apply Yn)
  apply Ys
  ·simp -implicitDefEqProofs(maxSteps:=9^7)(disch:=first|exact Yo rfl|omega|(simp only[go_sem]<;>omega)|fail)only[go_sem,norm_eq,Ok.some]; with_reducible rfl
  exact ⟨h5,by simp,trivial⟩
 obtain rfl : k = F2.length := by omega
 rw [List.take_length,hmx];repeat(first|apply Ya|apply Yb|apply Yc|((first|apply Yd|apply Ye|apply Yf|apply Yg|apply Yh);simp -implicitDefEqProofs(maxSteps:=9^7)(disch:=first|exact Yo rfl|omega|(simp only[go_sem]<;>omega)|fail)only[go_sem,h5,Int.ofNat_lt,lF2,kp,kt]<;>try with_reducible rfl)|apply Yi|apply Yj|apply Yk|apply Yl|apply Ym|apply Yn)
end Go.Abs
