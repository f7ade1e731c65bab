/-
 TopMatched: figures that meet. No condition beyond those that each theorem names.
-/
import Derived.Test.YtgpbjihpkoiaiaaTB
import Derived.Test.YtgpbjihpkoiaiaaTM
import Derived.Test.YtgpbjihpkoiaiaaGB
import Derived.Test.YtgpbjihpkoiaiaaMQ
import Derived.Test.YtgpbjihpkoiaiaaZS18
set_option linter.all false
namespace Go.Abs
set_option maxRecDepth 10000
set_option maxHeartbeats 8000000
open Go.Abs.Beam (TakeA PairT checkT nT dT takeV)
theorem matched_main (kt : lim F 14 [] = some (.bool true, [])) (kb : lim F 15 [] = some (.bool true, [])) (ks : lim F 16 [] = some (.bool true, [])) (x : LoomB) (a b : GearB) :
  lim F 3 [x.av, a.av, b.av] = some (.bool true, []) := by
 have hd := arm_ok x;have hrw := arm_rows x;have hh := harn_ok x;have hhl := harn_len x;have hD := armDesign_ok x;have hH := armHarness_ok x;have hT := armTied_ok ((armN x).hk : Int) (harnN x) (by omega)
 have hW := tWeave_ok _ hh (armN x) hd rfl;have ta := armTake_ok a;have tb := armTake_ok b;have ka := Beam.Take_ok a.t;have kb' := Beam.Take_ok b.t;rw [gearB_ok a] at ka;rw [gearB_ok b] at kb';simp only [if_true, takeV] at ka kb';have wa := armWidth_ok a;have wb := armWidth_ok b;have ba := gearB_bound a;have bb := gearB_bound b;have la := wid_le a;have lb := wid_le b;unfold LoomB.av at *;unfold HarN.av at *;unfold GearB.av at *;dsimp only at hW;generalize harnN x = hw at *;generalize bytesV x.warps = ws at *;generalize wordsV x.rows = es at *;generalize bytesV x.cards = cs at *;generalize (x.hooks.1 : Int) = hk0 at *;generalize armN x = d at *;have hO := armOwn_ok d (by omega)
 unfold DesN.av at *;change lim F _ [_, .agg [_, .list 1 (natsV d.rows)]] = _ at hW;have hln : (natsV d.rows).length = d.rows.length := by simp
 have hlw : (natsV hw).length = hw.length := by simp
 have hpd : (natsV d.rows).all AV.plain = true := nat_plain _;have hpw : (natsV hw).all AV.plain = true := nat_plain _;have htd : (natsV d.rows).take d.rows.length = natsV d.rows := List.take_of_length_le (by omega)
 have htw : (natsV hw).take hw.length = natsV hw := List.take_of_length_le (by omega)
 have hcl : (clothV d.rows hw).length = d.rows.length := by simp
 have hcp2 := cloth_bad (ws := hw) hrw.1;have hct : (clothV d.rows hw).take d.rows.length = clothV d.rows hw := List.take_of_length_le (by omega)
 have hLk : lim F 26 [.list 1 (clothV d.rows hw), .list 1 (clothV d.rows hw)] = some (.bool true, []) := by
  have := armLike_ok (d.rows.map fun r => pickB r hw) (by simp; omega)
  rw [List.map_map] at this;exact this
 generalize clothV d.rows hw = CL at *;generalize hnn : d.rows.length = n at *;generalize natsV d.rows = Rv at *;generalize natsV hw = Hv at *;unfold TakeA.av at ka kb';generalize widLo a = al at *;generalize widHi a = ah at *;generalize widLo b = bl at *;generalize widHi b = bh at *;obtain ⟨-, ba1, ba2⟩ := ba;obtain ⟨-, bb1, bb2⟩ := bb;generalize nT a.t = na at *;generalize dT a.t = da at *;generalize nT b.t = nb at *;generalize dT b.t = db at *;generalize hrest : d.hk = H at *;refine Yr (fn:=a3) (k:=3) (res:=[.tmp 6]) rfl rfl rfl (by simp -implicitDefEqProofs(maxSteps:=9^7)(disch:=first|exact Yo rfl|omega|(simp only[go_sem]<;>omega)|fail)only[go_sem]) ?_
 try delta mvA
 try delta opA
 try delta tA
 simp -implicitDefEqProofs(maxSteps:=9^7)(disch:=first|exact Yo rfl|omega|(simp only[go_sem]<;>omega)|fail)only[go_sem]
 repeat(first|apply Ya|apply Yb|apply Yc|((first|apply Yd|apply Ye|apply Yf|apply Yg|apply Yh);simp -implicitDefEqProofs(maxSteps:=9^7)(disch:=first|exact Yo rfl|omega|(simp only[go_sem]<;>omega)|fail)only[go_sem, hD, hH, hln, hlw, hpd, hpw, htd, htw]<;>try with_reducible rfl)|apply Yi|apply Yj|apply Yk|apply Yl|apply Ym|apply Yn)
 apply Yt 2 (fun i => ⟨[(4, .ptr 256 0 0), (5, .ptr 320 0 0), (7, .ptr 448 0 0), (8, .ptr 512 0 0), (9, iv (n : Int)), (10, .ptr 640 0 0), (11, iv (i : Int))], [(256, .box [.int .u8 (a.rat.1 : Int), .int .u8 (a.dr.1 : Int), .int .u8 (a.dn.1 : Int), .int .u16 (a.round.1 : Int), .int .u8 (a.r0.1 : Int), .int .u8 (a.r1.1 : Int)]), (320, .box [.int .u8 (b.rat.1 : Int), .int .u8 (b.dr.1 : Int), .int .u8 (b.dn.1 : Int), .int .u16 (b.round.1 : Int), .int .u8 (b.r0.1 : Int), .int .u8 (b.r1.1 : Int)]), (448, .box [iv (H : Int), .slice 307169 0 hw.length]), (512, .box [iv (H : Int), .slice 308193 0 n]), (640, .box [.slice 310240 0 (min i 1), .slice 310241 0 (i - 1)]), (307169, .arr 1 Hv), (308193, .arr 1 Rv), (310240, .arr 3 (if i = 0 then [] else [.agg [iv (n : Int), iv (max 1 al), iv (max 1 ah)]])), (310241, .arr 3 (if i ≤ 1 then [] else [.agg [iv (n : Int), iv (max 1 bl), iv (max 1 bh)]]))], [], 10000000⟩) (fun i => (1 ≤ i → max 1 ah ≤ 10000) ∧ (2 ≤ i → max 1 bh ≤ 10000))
 ·simp -implicitDefEqProofs(maxSteps:=9^7)(disch:=first|exact Yo rfl|omega|(simp only[go_sem]<;>omega)|fail)only[go_sem, norm_eq, Ok.some]
  rfl
 ·exact ⟨by omega, by omega⟩
 intro i hi hinv
 match i, hi with
 | 0, _ =>
  simp only [if_true, Nat.zero_le];by_cases hq : 10000 < max 1 ah
  ·repeat(first|apply Ya|apply Yb|apply Yc|((first|apply Yd|apply Ye|apply Yf|apply Yg|apply Yh);simp -implicitDefEqProofs(maxSteps:=9^7)(disch:=first|exact Yo rfl|omega|(simp only[go_sem]<;>omega)|fail)only[go_sem, ta, ka, wa, show ¬ da < 1 by omega, show ¬ na < 1 by omega, show ¬ (100000000 : Int) < na by omega, show ¬ (100000 : Int) < da by omega, hq, kt, kb, ks]<;>try with_reducible rfl)|apply Yi|apply Yj|apply Yk|apply Yl|apply Ym|apply Yn)
  ·repeat(first|apply Ya|apply Yb|apply Yc|((first|apply Yd|apply Ye|apply Yf|apply Yg|apply Yh);simp -implicitDefEqProofs(maxSteps:=9^7)(disch:=first|exact Yo rfl|omega|(simp only[go_sem]<;>omega)|fail)only[go_sem, ta, ka, wa, show ¬ da < 1 by omega, show ¬ na < 1 by omega, show ¬ (100000000 : Int) < na by omega, show ¬ (100000 : Int) < da by omega, hq]<;>try with_reducible rfl)|apply Yi|apply Yj|apply Yk|apply Yl|apply Ym|apply Yn)
   apply Ys
   ·simp -implicitDefEqProofs(maxSteps:=9^7)(disch:=first|exact Yo rfl|omega|(simp only[go_sem]<;>omega)|fail)only[go_sem, norm_eq, Ok.some]; with_reducible rfl
   exact ⟨by omega, by simp, by omega, by omega⟩
 | 1, _ =>
  have q1 := hinv.1 (by omega)
  simp only [show ¬ (1 : Nat) = 0 by omega, if_false, if_true, Nat.le_refl, show min 1 1 = 1 from rfl, show 1 - 1 = 0 from rfl]
  by_cases hq : 10000 < max 1 bh
  ·repeat(first|apply Ya|apply Yb|apply Yc|((first|apply Yd|apply Ye|apply Yf|apply Yg|apply Yh);simp -implicitDefEqProofs(maxSteps:=9^7)(disch:=first|exact Yo rfl|omega|(simp only[go_sem]<;>omega)|fail)only[go_sem, tb, kb', wb, show ¬ db < 1 by omega, show ¬ nb < 1 by omega, show ¬ (100000000 : Int) < nb by omega, show ¬ (100000 : Int) < db by omega, hq, kt, kb, ks]<;>try with_reducible rfl)|apply Yi|apply Yj|apply Yk|apply Yl|apply Ym|apply Yn)
  ·repeat(first|apply Ya|apply Yb|apply Yc|((first|apply Yd|apply Ye|apply Yf|apply Yg|apply Yh);simp -implicitDefEqProofs(maxSteps:=9^7)(disch:=first|exact Yo rfl|omega|(simp only[go_sem]<;>omega)|fail)only[go_sem, tb, kb', wb, show ¬ db < 1 by omega, show ¬ nb < 1 by omega, show ¬ (100000000 : Int) < nb by omega, show ¬ (100000 : Int) < db by omega, hq]<;>try with_reducible rfl)|apply Yi|apply Yj|apply Yk|apply Yl|apply Ym|apply Yn)
   apply Ys
   ·simp -implicitDefEqProofs(maxSteps:=9^7)(disch:=first|exact Yo rfl|omega|(simp only[go_sem]<;>omega)|fail)only[go_sem, norm_eq, Ok.some]; with_reducible rfl
   exact ⟨by omega, by simp, by omega, by omega⟩
 | 2, _ =>
  have q1 := hinv.1 (by omega)
  have q2 := hinv.2 (by omega)
  clear ta ka wa tb kb' wb hD hH hinv;simp only [show ¬ (2 : Nat) = 0 by omega, show ¬ (2 : Nat) ≤ 1 by omega, if_false, show min 2 1 = 1 from rfl, show 2 - 1 = 1 from rfl]
  have oa : Seam.OneOk n (max 1 al) (max 1 ah) := ⟨by omega, by omega, by omega, by omega, q1⟩
  have ob : Seam.OneOk n (max 1 bl) (max 1 bh) := ⟨by omega, by omega, by omega, by omega, q2⟩
  generalize max 1 al = a0 at *;generalize max 1 ah = a1 at *;generalize max 1 bl = b0 at *;generalize max 1 bh = b1 at *;obtain ⟨o1, o2⟩ := Seam.two_open oa ob;obtain ⟨w0, w1⟩ := Seam.two_worst oa ob;have hL := Seam.Least_ok (Seam.oneP n a0 a1) (Seam.oneP n b0 b1) [] (by simp)
  rw [o1, o2] at hL;have hP := Seam.Part_ok (Seam.oneP n a0 a1) (Seam.oneP n b0 b1) [] (Seam.worstL (Seam.sumsL (List.replicate n (Seam.dif a0 a1 b0 b1)))) (by simp) 0 0 7 (fun h => absurd o1 h) (fun _ h => absurd ⟨w0, w1⟩ h)
   (fun _ _ i hi h => absurd h (by
    have := (Seam.worst_le w0).1 (Int.le_refl _) _ (List.getElem_mem (show i < (Seam.sumsL (List.replicate n (Seam.dif a0 a1 b0 b1))).length by rw [← o2]; exact hi))
    simp only [o2];omega)) (fun _ _ _ => ⟨rfl, rfl, rfl⟩)
  have hp2 := Seam.two_pair oa ob;have e0 : (Seam.pairL (Seam.oneP n a0 a1) (Seam.oneP n b0 b1)).e = 0 := by rw [hp2]
  have em : Seam.moreL (Seam.widthsL (Seam.oneP n a0 a1)) (Seam.widthsL (Seam.oneP n b0 b1)) = List.replicate n (Seam.dif a0 a1 b0 b1) := by
   have := (Seam.pairL_ok e0).2.2.2;rw [hp2] at this;simp only [Seam.PairL.mk.injEq] at this;exact this.2.2.1.symm
  have ew : (Seam.widthsL (Seam.oneP n a0 a1)).length = n := by rw [Seam.OneOk.widths, List.length_replicate]
  have hM1 := Seam.Marks_ok (Seam.oneP n a0 a1) (Seam.oneP n b0 b1) _ e0 w0 w1;rw [em, ew, Seam.marks_least] at hM1;have hM0 := Seam.Marks_ok (Seam.oneP n a0 a1) (Seam.oneP n b0 b1) 0 e0 (by omega) (by omega)
  rw [em, ew] at hM0;have hA := Seam.Ahead_ok (Seam.oneP n a0 a1) (Seam.oneP n b0 b1) (Seam.allM n) (by simp; omega)
  have hall := Seam.two_all oa ob;have hmk := fun h => Seam.marks_all (n := n) (s := Seam.dif a0 a1 b0 b1) h
  change lim F _ [.list 3 [.agg [iv (n : Int), iv a0, iv a1]], .list 3 [.agg [iv (n : Int), iv b0, iv b1]], .list 1 []] = _ at hL;change lim F _ [.list 3 [.agg [iv (n : Int), iv a0, iv a1]], .list 3 [.agg [iv (n : Int), iv b0, iv b1]], .list 1 [], _] = _ at hP;change lim F _ [.list 3 [.agg [iv (n : Int), iv a0, iv a1]], .list 3 [.agg [iv (n : Int), iv b0, iv b1]], _] = _ at hM1;change lim F _ [.list 3 [.agg [iv (n : Int), iv a0, iv a1]], .list 3 [.agg [iv (n : Int), iv b0, iv b1]], _] = _ at hM0;change lim F _ [.list 3 [.agg [iv (n : Int), iv a0, iv a1]], .list 3 [.agg [iv (n : Int), iv b0, iv b1]], _] = _ at hA;simp only [List.map_nil] at hM1;generalize Seam.worstL (Seam.sumsL (List.replicate n (Seam.dif a0 a1 b0 b1))) = W at *;repeat(first|apply Ya|apply Yb|apply Yc|((first|apply Yd|apply Ye|apply Yf|apply Yg|apply Yh);simp -implicitDefEqProofs(maxSteps:=9^7)(disch:=first|exact Yo rfl|omega|(simp only[go_sem]<;>omega)|fail)only[go_sem, hL, hP, hM1, show ¬ W < 0 by omega, show ¬ (2000000 : Int) < W by omega]<;>try with_reducible rfl)|apply Yi|apply Yj|apply Yk|apply Yl|apply Ym|apply Yn)
  have hstep : ∀ k, (Seam.allM (k + 1)).map (fun n => iv n) = (Seam.allM k).map (fun n => iv n) ++ [iv ((k + 1 : Nat) : Int)] := fun k => by
   unfold Seam.allM;rw [List.range_succ, List.map_append, List.map_append]; rfl
  have hal : ∀ k, ((Seam.allM k).map (fun n => iv n)).length = k := fun k => by simp
  apply Yt n (fun k => ⟨[(7, .ptr 448 0 0), (8, .ptr 512 0 0), (9, iv (n : Int)), (10, .ptr 640 0 0), (24, .slice 1536 0 k), (25, iv ((k + 1 : Nat) : Int))], [(448, .box [iv (H : Int), .slice 307169 0 hw.length]), (512, .box [iv (H : Int), .slice 308193 0 n]), (640, .box [.slice 310240 0 1, .slice 310241 0 1]), (1536, .arr 1 ((Seam.allM k).map fun n => iv n)), (307169, .arr 1 Hv), (308193, .arr 1 Rv), (310240, .arr 3 [.agg [iv (n : Int), iv a0, iv a1]]), (310241, .arr 3 [.agg [iv (n : Int), iv b0, iv b1]])], [], 10000000⟩) (fun _ => True)
  ·simp -implicitDefEqProofs(maxSteps:=9^7)(disch:=first|exact Yo rfl|omega|(simp only[go_sem]<;>omega)|fail)only[go_sem, norm_eq, Ok.some]
   rfl
  ·trivial
  intro k hk _;have n1 := hal k;have t1 : ((Seam.allM k).map (fun n => iv n)).take k = (Seam.allM k).map (fun n => iv n) := List.take_of_length_le (by omega)
  by_cases h' : k < n
  ·rw [hstep k]
   clear hstep hal hall hA hM0 hmk;generalize (Seam.allM k).map (fun n => iv n) = L at *
   repeat(first|apply Ya|apply Yb|apply Yc|((first|apply Yd|apply Ye|apply Yf|apply Yg|apply Yh);simp -implicitDefEqProofs(maxSteps:=9^7)(disch:=first|exact Yo rfl|omega|(simp only[go_sem]<;>omega)|fail)only[go_sem, show ((k + 1 : Nat) : Int) ≤ n by omega, n1, t1]<;>try with_reducible rfl)|apply Yi|apply Yj|apply Yk|apply Yl|apply Ym|apply Yn)
   apply Ys
   ·simp -implicitDefEqProofs(maxSteps:=9^7)(disch:=first|exact Yo rfl|omega|(simp only[go_sem]<;>omega)|fail)only[go_sem, norm_eq, Ok.some]; with_reducible rfl
   exact ⟨h', by simp, trivial⟩
  obtain rfl : k = n := by omega
  have hpA : ((Seam.allM k).map (fun n => iv n)).all AV.plain = true := by
   rw [List.all_eq_true];intro x hx;obtain ⟨y, -, rfl⟩ := List.mem_map.1 hx;rfl
  have hI := armInts_ok ((Seam.allM k).map (fun n => iv n)) hpA (by omega)
  clear hstep hal;by_cases hq : a0 ≤ b1 ∧ b0 ≤ a1
  ·obtain ⟨z1, z2⟩ := hall.1 hq
   rw [z1, z2] at hA;obtain ⟨fw, hfw, hfl⟩ := hmk (by unfold Seam.dif Seam.Span.Has0; dsimp only; omega)
   rw [hfw] at hM0;dsimp only at hM0;have lf : (fw.map fun n => iv n).length = fw.length := by simp
   have pf : (fw.map fun n => iv n).all AV.plain = true := by
    rw [List.all_eq_true];intro x hx;obtain ⟨y, -, rfl⟩ := List.mem_map.1 hx;rfl
   have hsl : ((List.replicate (k + 1) (⟨0, 0⟩ : Seam.Span)).map Seam.Span.av).length = k + 1 := by simp
   have hsg : ∀ i, i < k + 1 → ((List.replicate (k + 1) (⟨0, 0⟩ : Seam.Span)).map Seam.Span.av)[i]? = some (.agg [iv 0, iv 0]) := fun i hi => by
    rw [List.getElem?_map, List.getElem?_replicate, if_pos hi]; rfl
   have hsp : ((List.replicate (k + 1) (⟨0, 0⟩ : Seam.Span)).map Seam.Span.av).all AV.plain = true := Seam.span_plain _;generalize (List.replicate (k + 1) (⟨0, 0⟩ : Seam.Span)).map Seam.Span.av = SV at *;generalize (Seam.allM k).map (fun n => iv n) = L at *
   generalize fw.map (fun n => iv n) = FV at *
   repeat(first|apply Ya|apply Yb|apply Yc|((first|apply Yd|apply Ye|apply Yf|apply Yg|apply Yh);simp -implicitDefEqProofs(maxSteps:=9^7)(disch:=first|exact Yo rfl|omega|(simp only[go_sem]<;>omega)|fail)only[go_sem, show ¬ ((k + 1 : Nat) : Int) ≤ k by omega, n1, t1, hpA, hI, hA, hM0, hsl, hsp, lf, pf, show ¬ b1 < a0 by omega, show ¬ a1 < b0 by omega]<;>try with_reducible rfl)|apply Yi|apply Yj|apply Yk|apply Yl|apply Ym|apply Yn)
   clear hL hP hM1 hA hM0 hI hall hmk;apply Yt (k + 1) (fun i => ⟨[(7, .ptr 448 0 0), (8, .ptr 512 0 0), (9, iv (k : Int)), (26, .slice 1664 0 (k + 1)), (28, .slice 1792 0 fw.length), (29, iv 0), (31, iv (i : Int))], [(448, .box [iv (H : Int), .slice 307169 0 hw.length]), (512, .box [iv (H : Int), .slice 308193 0 k]), (1664, .arr 2 SV), (1792, .arr 1 FV), (307169, .arr 1 Hv), (308193, .arr 1 Rv)], [], 10000000⟩) (fun _ => True)
   ·simp -implicitDefEqProofs(maxSteps:=9^7)(disch:=first|exact Yo rfl|omega|(simp only[go_sem]<;>omega)|fail)only[go_sem, norm_eq, Ok.some]
   ·trivial
   intro i hi _;have hs0 := armSpanG_ok 0 0;by_cases h3 : i < k + 1
   ·have g1 := hsg i h3
    repeat(first|apply Ya|apply Yb|apply Yc|((first|apply Yd|apply Ye|apply Yf|apply Yg|apply Yh);simp -implicitDefEqProofs(maxSteps:=9^7)(disch:=first|exact Yo rfl|omega|(simp only[go_sem]<;>omega)|fail)only[go_sem, show (i : Int) < ((k + 1 : Nat) : Int) by omega, h3, g1, hsl, hs0, Int.toNat_natCast]<;>try with_reducible rfl)|apply Yi|apply Yj|apply Yk|apply Yl|apply Ym|apply Yn)
    apply Ys
    ·simp -implicitDefEqProofs(maxSteps:=9^7)(disch:=first|exact Yo rfl|omega|(simp only[go_sem]<;>omega)|fail)only[go_sem, norm_eq, Ok.some]; with_reducible rfl
    exact ⟨h3, by simp, trivial⟩
   ·obtain rfl : i = k + 1 := by omega
    repeat(first|apply Ya|apply Yb|apply Yc|((first|apply Yd|apply Ye|apply Yf|apply Yg|apply Yh);simp -implicitDefEqProofs(maxSteps:=9^7)(disch:=first|exact Yo rfl|omega|(simp only[go_sem]<;>omega)|fail)only[go_sem, show ¬ ((k + 1 : Nat) : Int) < ((k + 1 : Nat) : Int) by omega, hsl, lf, show (((k + 1 : Nat) : Int) = (k : Int) + 1) = True from eq_true (by omega), show ¬ (k : Int) < fw.length by omega, hT, hO, hW, hln, hlw, hpd, hpw, htd, htw, hcl, hcp2, hct, hLk, kt, kb, ks]<;>try with_reducible rfl)|apply Yi|apply Yj|apply Yk|apply Yl|apply Ym|apply Yn)
  ·obtain ⟨z1, z2⟩ := hall.2 hq
   rw [z1, z2] at hA;obtain ⟨fv, fe, hM0', pf⟩ : ∃ fv fe, lim F 19 [.list 3 [.agg [iv (k : Int), iv a0, iv a1]], .list 3 [.agg [iv (k : Int), iv b0, iv b1]], iv 0] = some (.tuple [.own 1 (fv : List AV), iv fe], []) ∧ fv.all AV.plain = true := by
    rw [hM0];cases Seam.marksO (List.replicate k (Seam.dif a0 a1 b0 b1)) 0 k with
    | none => exact ⟨_, _, rfl, rfl⟩
    | some l =>
     refine ⟨_, _, rfl, ?_⟩;rw [List.all_eq_true];intro x hx;obtain ⟨y, -, rfl⟩ := List.mem_map.1 hx;rfl
   clear hM0;generalize (Seam.allM k).map (fun n => iv n) = L at *
   simp only [List.map_nil] at hA;have hx : b1 < a0 ∨ (¬ b1 < a0 ∧ a1 < b0) := by omega
   rcases hx with hx | ⟨hx1, hx2⟩
   ·repeat(first|apply Ya|apply Yb|apply Yc|((first|apply Yd|apply Ye|apply Yf|apply Yg|apply Yh);simp -implicitDefEqProofs(maxSteps:=9^7)(disch:=first|exact Yo rfl|omega|(simp only[go_sem]<;>omega)|fail)only[go_sem, show ¬ ((k + 1 : Nat) : Int) ≤ k by omega, n1, t1, hpA, hI, hA, hM0', pf, hx, hT, hO, hW, hln, hlw, hpd, hpw, htd, htw, hcl, hcp2, hct, hLk, kt, kb, ks]<;>try with_reducible rfl)|apply Yi|apply Yj|apply Yk|apply Yl|apply Ym|apply Yn)
   ·repeat(first|apply Ya|apply Yb|apply Yc|((first|apply Yd|apply Ye|apply Yf|apply Yg|apply Yh);simp -implicitDefEqProofs(maxSteps:=9^7)(disch:=first|exact Yo rfl|omega|(simp only[go_sem]<;>omega)|fail)only[go_sem, show ¬ ((k + 1 : Nat) : Int) ≤ k by omega, n1, t1, hpA, hI, hA, hM0', pf, hx1, hx2, hT, hO, hW, hln, hlw, hpd, hpw, htd, htw, hcl, hcp2, hct, hLk, kt, kb, ks]<;>try with_reducible rfl)|apply Yi|apply Yj|apply Yk|apply Yl|apply Ym|apply Yn)
end Go.Abs
