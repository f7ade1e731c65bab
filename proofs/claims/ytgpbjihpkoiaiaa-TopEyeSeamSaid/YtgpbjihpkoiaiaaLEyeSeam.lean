/-
 TopEyeSeam: a length with a wrong warp. No condition beyond those that each theorem names.
-/
import Derived.Test.YtgpbjihpkoiaiaaYE
import Derived.Test.YtgpbjihpkoiaiaaTB
set_option linter.all false
namespace Go.Abs
set_option maxRecDepth 10000
set_option maxHeartbeats 8000000
theorem armSpanE_ok (a b : Int) : lim F 22 [iv a,iv b] = some (.agg [iv a,iv b],[]) := by
 refine Yr (fn:=a22) (k:=2) (res:=[.cell 4 2 true]) rfl rfl rfl (by simp -implicitDefEqProofs(maxSteps:=9^7)(disch:=first|exact Yo rfl|omega|(simp only[go_sem]<;>omega)|fail)only[go_sem]) ?_
 try delta mvA
 try delta opA
 try delta tA
 simp -implicitDefEqProofs(maxSteps:=9^7)(disch:=first|exact Yo rfl|omega|(simp only[go_sem]<;>omega)|fail)only[go_sem]
 repeat(first|apply Ya|apply Yb|apply Yc|((first|apply Yd|apply Ye|apply Yf|apply Yg|apply Yh);simp -implicitDefEqProofs(maxSteps:=9^7)(disch:=first|exact Yo rfl|omega|(simp only[go_sem]<;>omega)|fail)only[go_sem]<;>try with_reducible rfl)|apply Yi|apply Yj|apply Yk|apply Yl|apply Ym|apply Yn)
theorem eyeseam_main (ks : lim F 16 [] = some (.bool true,[])) (ke : lim F 58 [] = some (.bool true,[])) (x : LoomB) (bg : Nat) (hbg : bg < 256) :
  lim F 8 [x.av,.int .u8 (bg : Int)] = some (.bool true,[]) := by
 have hd := arm_ok x;have hrw := arm_rows x;have hh := harn_ok x;have hhl := harn_len x;have hD := armDesign_ok x;have hH := armHarness_ok x;have hT := armTied_ok ((armN x).hk : Int) (harnN x) (by omega)
 have hDr := armDrawing_ok (harnN x).length x.cards hhl.1 (by omega)
 have hdo := drawN_ok (harnN x).length x.cards hhl.1;have hMx := armMixed_nil (harnN x).length (by omega)
 have hW1 := eWeave_ok _ hh _ hdo (armN x) hd rfl;have hW2 := eWeave_ok _ hh _ (idN_ok (harnN x).length) (armN x) hd rfl;have hWr := Wrong_ok _ hh _ hdo;obtain ⟨q,hRe,RW,af,rfl,haf,hafr⟩ := Redraw_ok _ hh _ hdo;have hW3 := eWeave_ok _ hh _ haf (armN x) hd rfl;dsimp only at hW1 hW2 hW3 hWr hRe haf hafr;rw [ecloth_same (idN_ok _) (id_same _)] at hW2;rw [ecloth_same haf hafr] at hW3;have hal := haf.len;unfold LoomB.av at *;unfold HarN.av at *;dsimp only at hW1 hW2 hW3 hWr hRe;generalize harnN x = hw at *;generalize bytesV x.warps = ws at *;generalize wordsV x.rows = es at *;generalize x.cards = cb at *;generalize (x.hooks.1 : Int) = hk0 at *;generalize armN x = d at *;have hO := armOwn_ok d (by omega)
 unfold DesN.av at *;change lim F _ [_,_,.agg [_,.list 1 (natsV d.rows)]] = _ at hW1 hW2 hW3;generalize hdr : drawN hw.length cb hw.length = DR at *;have hln : (natsV d.rows).length = d.rows.length := by simp
 have hlw : (natsV hw).length = hw.length := by simp
 have hld : (intsV DR).length = hw.length := by simp [intsV,hdo.len]
 have hli : (intsV (idN hw.length)).length = hw.length := by simp [intsV]
 have hla : (intsV af).length = hw.length := by simp [intsV,hal]
 have hIn := armInts_ok (intsV DR) (ints_plain _) (by omega)
 have hpd : (natsV d.rows).all AV.plain = true := nat_plain _;have hpw : (natsV hw).all AV.plain = true := nat_plain _;have hpD := ints_plain DR;have hpI := ints_plain (idN hw.length);have hpA := ints_plain af;have htd : (natsV d.rows).take d.rows.length = natsV d.rows := List.take_of_length_le (by omega)
 have htw : (natsV hw).take hw.length = natsV hw := List.take_of_length_le (by omega)
 have htD : (intsV DR).take hw.length = intsV DR := List.take_of_length_le (by omega)
 have htI : (intsV (idN hw.length)).take hw.length = intsV (idN hw.length) := List.take_of_length_le (by omega)
 have htA : (intsV af).take hw.length = intsV af := List.take_of_length_le (by omega)
 have cl1 : (eclothV d.rows hw DR).length = d.rows.length := by simp
 have cl2 : (clothV d.rows hw).length = d.rows.length := by simp
 have cp1 := ecloth_bad (ws := hw) (dr := DR) hrw.1;have cp2 := cloth_bad (ws := hw) hrw.1;have ct1 : (eclothV d.rows hw DR).take d.rows.length = eclothV d.rows hw DR := List.take_of_length_le (by omega)
 have ct2 : (clothV d.rows hw).take d.rows.length = clothV d.rows hw := List.take_of_length_le (by omega)
 have cg1 : ∀ p,p < d.rows.length → (eclothV d.rows hw DR)[p]? = some (strA (eyeB (d.rows.getD p 0) hw DR)) := fun p hp => ecloth_at hp
 have cg2 : ∀ p,p < d.rows.length → (clothV d.rows hw)[p]? = some (strA (pickB (d.rows.getD p 0) hw)) := fun p hp => cloth_at hp
 have hsl1 : ∀ r,(eyeB r hw DR).length = hw.length := fun r => by simp [eyeB,hdo.len]
 have hsl2 : ∀ r,(pickB r hw).length = hw.length := fun r => by simp
 have hsr := fun r k hk hr => eye_right r hdo (k := k) hk hr
 have hLk : lim F 26 [.list 1 (clothV d.rows hw),.list 1 (clothV d.rows hw)] = some (.bool true,[]) := by
  have := armLike_ok (d.rows.map fun r => pickB r hw) (by simp; omega)
  rw [List.map_map] at this;exact this
 have hwl : (natsV (wrongN hw DR hw.length)).length = (wrongN hw DR hw.length).length := by simp
 have hwt : (natsV (wrongN hw DR hw.length)).take (wrongN hw DR hw.length).length = natsV (wrongN hw DR hw.length) := List.take_of_length_le (by omega)
 have hwp : (natsV (wrongN hw DR hw.length)).all AV.plain = true := nat_plain _;have hwg : ∀ i,i < (wrongN hw DR hw.length).length → (natsV (wrongN hw DR hw.length))[i]? = some (iv (((wrongN hw DR hw.length).getD i 0 : Nat) : Int)) := fun i hi => nats_at hi
 have hwn := wrong_len hw DR hw.length;have hmw := fun k => mem_wrong (ws := hw) (dr := DR) (n := hw.length) (k := k)
 have hRl : (natsV RW).length = RW.length := by simp
 have hRt : (natsV RW).take RW.length = natsV RW := List.take_of_length_le (by simp)
 have hRp : (natsV RW).all AV.plain = true := nat_plain _;have hoo : Seam.OneOk d.rows.length 500 500 := ⟨by omega,by omega,by omega,by omega,by omega⟩
 obtain ⟨o1,o2⟩ := Seam.two_open hoo hoo;have hA := Seam.Ahead_ok (Seam.oneP d.rows.length 500 500) (Seam.oneP d.rows.length 500 500) [] (by simp)
 rw [o1,o2,sums_zero] at hA;change lim F _ [.list 3 [.agg [iv (d.rows.length : Int),iv 500,iv 500]],.list 3 [.agg [iv (d.rows.length : Int),iv 500,iv 500]],.list 1 []] = _ at hA;have hsl : ((List.replicate (d.rows.length + 1) (⟨0,0⟩ : Seam.Span)).map Seam.Span.av).length = d.rows.length + 1 := by simp
 have hsg : ∀ i,i < d.rows.length + 1 → ((List.replicate (d.rows.length + 1) (⟨0,0⟩ : Seam.Span)).map Seam.Span.av)[i]? = some (.agg [iv 0,iv 0]) := fun i hi => by
  rw [List.getElem?_map,List.getElem?_replicate,if_pos hi]; rfl
 have hsp : ((List.replicate (d.rows.length + 1) (⟨0,0⟩ : Seam.Span)).map Seam.Span.av).all AV.plain = true := Seam.span_plain _;obtain ⟨s0,s1,need,hC,c0,c1,b0,b1⟩ := cut2_ok d.rows.length (bg % d.rows.length) ⟨hrw.1,by omega⟩ (Nat.mod_lt _ (by omega))
 have eb : Int.tmod (bg : Int) (d.rows.length : Int) = ((bg % d.rows.length : Nat) : Int) := by rw [Int.tmod_eq_emod_of_nonneg (by omega)]; rfl
 have hs5 := armSpanE_ok 500 500;have hs0 := armSpanE_ok 0 0;have mlt := Nat.mod_lt bg (show 0 < d.rows.length by omega)
 generalize eclothV d.rows hw DR = C1 at *;generalize clothV d.rows hw = C2 at *;generalize (List.replicate (d.rows.length + 1) (⟨0,0⟩ : Seam.Span)).map Seam.Span.av = SV at *;generalize hN : hw.length = N at *;generalize hM : d.rows.length = M at *;generalize natsV d.rows = Rv at *;generalize natsV hw = Hv at *;generalize natsV RW = RWV at *;generalize intsV af = AFV at *;generalize intsV (idN N) = IDV at *;generalize hWN : wrongN hw DR N = WN at *;generalize intsV DR = DV at *;generalize bg % M = bm at *;generalize bytesV cb = cs at *;refine Yr (fn:=a8) (k:=2) (res:=[.tmp 4]) rfl rfl rfl (by simp -implicitDefEqProofs(maxSteps:=9^7)(disch:=first|exact Yo rfl|omega|(simp only[go_sem]<;>omega)|fail)only[go_sem]) ?_
 try delta mvA
 try delta opA
 try delta tA
 simp -implicitDefEqProofs(maxSteps:=9^7)(disch:=first|exact Yo rfl|omega|(simp only[go_sem]<;>omega)|fail)only[go_sem]
 repeat(first|apply Ya|apply Yb|apply Yc|((first|apply Yd|apply Ye|apply Yf|apply Yg|apply Yh);simp -implicitDefEqProofs(maxSteps:=9^7)(disch:=first|exact Yo rfl|omega|(simp only[go_sem]<;>omega)|fail)only[go_sem,hD,hH,hln,hlw,hpd,hpw,htd,htw,hDr,hld,hpD,htD,hT,hIn,hO,hW1,hMx,hli,hpI,htI,hW2,hWr,hwl,hwt,hwp,hRe,hRl,hRt,hRp,hla,hpA,htA,hW3,cl1,cl2,cp1,cp2,ct1,ct2,hLk]<;>try with_reducible rfl)|apply Yi|apply Yj|apply Yk|apply Yl|apply Ym|apply Yn)
 clear hD hH hDr hT hIn hO hW1 hMx hW2 hWr hRe hW3 hLk hln hlw hpd hpw htd htw hld hpD htD hli hpI htI hla hpA htA hRl hRt hRp;apply Yu WN.length (fun i fr => ∃ kv,fr = ⟨[(1,.int .u8 (bg : Int)),(7,iv (N : Int)),(8,iv (M : Int)),(10,.slice 640 0 M),(12,.slice 768 0 M),(14,.slice 896 0 WN.length),(19,.slice 1216 0 M),(21,.mapp 1344),(22,iv (i : Int))],[(640,.arr 1 C1),(768,.arr 1 C2),(896,.arr 1 (natsV WN)),(1216,.arr 1 C2),(1344,.mp .i64 kv)],[],10000000⟩ ∧ KvIs kv (WN.take i))
 ·simp -implicitDefEqProofs(maxSteps:=9^7)(disch:=first|exact Yo rfl|omega|(simp only[go_sem]<;>omega)|fail)only[go_sem,norm_eq,Ok.some]
  exact ⟨[],rfl,KvIs.nil⟩
 rintro i fr hi ⟨kv,rfl,hkv⟩;by_cases h1 : i < WN.length
 ·have g1 := hwg i h1
  have k1 := kv_take hkv h1;clear hkv;generalize hWv : natsV WN = WV at *;generalize WN.getD i 0 = wv at *;generalize hWl : WN.length = wl at *;repeat(first|apply Ya|apply Yb|apply Yc|((first|apply Yd|apply Ye|apply Yf|apply Yg|apply Yh);simp -implicitDefEqProofs(maxSteps:=9^7)(disch:=first|exact Yo rfl|omega|(simp only[go_sem]<;>omega)|fail)only[go_sem,h1,Int.ofNat_lt,g1,hwl,Int.toNat_natCast]<;>try with_reducible rfl)|apply Yi|apply Yj|apply Yk|apply Yl|apply Ym|apply Yn)
  apply Ys
  ·simp -implicitDefEqProofs(maxSteps:=9^7)(disch:=first|exact Yo rfl|omega|(simp only[go_sem]<;>omega)|fail)only[go_sem,norm_eq,Ok.some]; with_reducible rfl
  refine ⟨h1,_,?_,k1⟩;simp
 obtain rfl : i = WN.length := by omega
 rw [List.take_length] at hkv;generalize hWv : natsV WN = WV at *;generalize hWl : WN.length = wl at *;repeat(first|apply Ya|apply Yb|apply Yc|((first|apply Yd|apply Ye|apply Yf|apply Yg|apply Yh);simp -implicitDefEqProofs(maxSteps:=9^7)(disch:=first|exact Yo rfl|omega|(simp only[go_sem]<;>omega)|fail)only[go_sem,h1,Int.ofNat_lt,hwl]<;>try with_reducible rfl)|apply Yi|apply Yj|apply Yk|apply Yl|apply Ym|apply Yn)
 have hmk : ∀ k,k < N → rightW hw DR k = false → kvGet (k : Int) kv = some (.bool true) := fun k h2 h3 => by
  rw [hkv k,if_pos ((hmw k).2 ⟨h2,h3⟩)]
 clear hwg hkv hmw;apply Yt M (fun p => ⟨[(1,.int .u8 (bg : Int)),(7,iv (N : Int)),(8,iv (M : Int)),(10,.slice 640 0 M),(12,.slice 768 0 M),(19,.slice 1216 0 M),(21,.mapp 1344),(23,iv (p : Int))],[(640,.arr 1 C1),(768,.arr 1 C2),(1216,.arr 1 C2),(1344,.mp .i64 kv)],[],10000000⟩) (fun _ => True)
 ·simp -implicitDefEqProofs(maxSteps:=9^7)(disch:=first|exact Yo rfl|omega|(simp only[go_sem]<;>omega)|fail)only[go_sem,norm_eq,Ok.some]
 ·trivial
 intro p hp _;by_cases h2 : p < M
 ·have f1 := cg1 p h2
  have f2 := cg2 p h2;have l1 := hsl1 (d.rows.getD p 0);have l2 := hsl2 (d.rows.getD p 0);have r1 := fun k hk hr => hsr (d.rows.getD p 0) k hk hr
  clear cg1 cg2 hsl1 hsl2 hsr;generalize eyeB (d.rows.getD p 0) hw DR = sb1 at *;generalize pickB (d.rows.getD p 0) hw = sb2 at *;repeat(first|apply Ya|apply Yb|apply Yc|((first|apply Yd|apply Ye|apply Yf|apply Yg|apply Yh);simp -implicitDefEqProofs(maxSteps:=9^7)(disch:=first|exact Yo rfl|omega|(simp only[go_sem]<;>omega)|fail)only[go_sem,h2,Int.ofNat_lt]<;>try with_reducible rfl)|apply Yi|apply Yj|apply Yk|apply Yl|apply Ym|apply Yn)
  apply Yt N (fun k => ⟨[(1,.int .u8 (bg : Int)),(7,iv (N : Int)),(8,iv (M : Int)),(10,.slice 640 0 M),(12,.slice 768 0 M),(19,.slice 1216 0 M),(21,.mapp 1344),(23,iv (p : Int)),(24,iv (k : Int))],[(640,.arr 1 C1),(768,.arr 1 C2),(1216,.arr 1 C2),(1344,.mp .i64 kv)],[],10000000⟩) (fun _ => True)
  ·simp -implicitDefEqProofs(maxSteps:=9^7)(disch:=first|exact Yo rfl|omega|(simp only[go_sem]<;>omega)|fail)only[go_sem,norm_eq,Ok.some]
  ·trivial
  intro k hk _;by_cases h3 : k < N
  ·by_cases ce : sb1.getD k 0 = sb2.getD k 0
   ·repeat(first|apply Ya|apply Yb|apply Yc|((first|apply Yd|apply Ye|apply Yf|apply Yg|apply Yh);simp -implicitDefEqProofs(maxSteps:=9^7)(disch:=first|exact Yo rfl|omega|(simp only[go_sem]<;>omega)|fail)only[go_sem,h2,h3,Int.ofNat_lt,f1,f2,cl1,cl2,l1,l2,ce,bne_self_eq_false,Int.toNat_natCast]<;>try with_reducible rfl)|apply Yi|apply Yj|apply Yk|apply Yl|apply Ym|apply Yn)
    apply Ys
    ·simp -implicitDefEqProofs(maxSteps:=9^7)(disch:=first|exact Yo rfl|omega|(simp only[go_sem]<;>omega)|fail)only[go_sem,norm_eq,Ok.some]; with_reducible rfl
    exact ⟨h3,by simp,trivial⟩
   ·have hr0 : rightW hw DR k = false := by
     cases hb : rightW hw DR k with
     | false => rfl
     | true => exact absurd (r1 k h3 hb) ce
    have g2 := hmk k h3 hr0;have ce' : ¬ (((sb1.getD k 0).toNat : Nat) : Int) = (((sb2.getD k 0).toNat : Nat) : Int) := fun q => ce (UInt8.toNat_inj.1 (by omega))
    repeat(first|apply Ya|apply Yb|apply Yc|((first|apply Yd|apply Ye|apply Yf|apply Yg|apply Yh);simp -implicitDefEqProofs(maxSteps:=9^7)(disch:=first|exact Yo rfl|omega|(simp only[go_sem]<;>omega)|fail)only[go_sem,h2,h3,Int.ofNat_lt,f1,f2,cl1,cl2,l1,l2,ce',g2,Int.toNat_natCast]<;>try with_reducible rfl)|apply Yi|apply Yj|apply Yk|apply Yl|apply Ym|apply Yn)
    apply Ys
    ·simp -implicitDefEqProofs(maxSteps:=9^7)(disch:=first|exact Yo rfl|omega|(simp only[go_sem]<;>omega)|fail)only[go_sem,norm_eq,Ok.some]; with_reducible rfl
    exact ⟨h3,by simp,trivial⟩
  ·obtain rfl : k = N := by omega
   repeat(first|apply Ya|apply Yb|apply Yc|((first|apply Yd|apply Ye|apply Yf|apply Yg|apply Yh);simp -implicitDefEqProofs(maxSteps:=9^7)(disch:=first|exact Yo rfl|omega|(simp only[go_sem]<;>omega)|fail)only[go_sem,h3,Int.ofNat_lt]<;>try with_reducible rfl)|apply Yi|apply Yj|apply Yk|apply Yl|apply Ym|apply Yn)
   apply Ys
   ·simp -implicitDefEqProofs(maxSteps:=9^7)(disch:=first|exact Yo rfl|omega|(simp only[go_sem]<;>omega)|fail)only[go_sem,norm_eq,Ok.some]; with_reducible rfl
   exact ⟨h2,by simp,trivial⟩
 obtain rfl : p = M := by omega
 clear hmk hsr cg1 hsl1 hsl2;repeat(first|apply Ya|apply Yb|apply Yc|((first|apply Yd|apply Ye|apply Yf|apply Yg|apply Yh);simp -implicitDefEqProofs(maxSteps:=9^7)(disch:=first|exact Yo rfl|omega|(simp only[go_sem]<;>omega)|fail)only[go_sem,h2,Int.ofNat_lt,hs5,eb,hA,hsl,hsp,hC,show ¬ (p : Int) = 0 by omega,show ¬ (s0 : Int) < 0 by omega,show ¬ (s1 : Int) < 0 by omega,show (((p + 1 : Nat) : Int) = (p : Int) + 1) = True from eq_true (by omega)]<;>try with_reducible rfl)|apply Yi|apply Yj|apply Yk|apply Yl|apply Ym|apply Yn)
 generalize hMM : p = M at *;apply Yt M (fun i => ⟨[(8,iv (M : Int)),(19,.slice 1216 0 M),(26,.slice 1664 0 (M + 1)),(28,.slice 1792 0 2),(31,iv (i : Int))],[(1216,.arr 1 C2),(1664,.arr 2 SV),(1792,.arr 1 [iv (s0 : Int),iv (s1 : Int)])],[],10000000⟩) (fun _ => True)
 ·simp -implicitDefEqProofs(maxSteps:=9^7)(disch:=first|exact Yo rfl|omega|(simp only[go_sem]<;>omega)|fail)only[go_sem,norm_eq,Ok.some]
 ·trivial
 intro i hi _;by_cases h4 : i < M
 ·have g1 := hsg (i + 1) (by omega)
  have e0 : ((i : Int) + 1).toNat = i + 1 := by omega
  have e1 : Int.tmod ((s0 : Int) + i) (M : Int) = (((s0 + i) % M : Nat) : Int) := by rw [Int.tmod_eq_emod_of_nonneg (by omega)]; rfl
  have e2 : Int.tmod ((s1 : Int) + i) (M : Int) = (((s1 + i) % M : Nat) : Int) := by rw [Int.tmod_eq_emod_of_nonneg (by omega)]; rfl
  have e3 : (s0 + i) % M = (s1 + i) % M := by rw [Nat.add_mod,c0,Nat.add_mod s1,c1]
  have m1 := Nat.mod_lt (s1 + i) (show 0 < M by omega)
  rw [e3] at e1;have f2 := cg2 ((s1 + i) % M) m1;clear cg2 hsg;generalize (s1 + i) % M = y at *;generalize pickB (d.rows.getD y 0) hw = sb at *;repeat(first|apply Ya|apply Yb|apply Yc|((first|apply Yd|apply Ye|apply Yf|apply Yg|apply Yh);simp -implicitDefEqProofs(maxSteps:=9^7)(disch:=first|exact Yo rfl|omega|(simp only[go_sem]<;>omega)|fail)only[go_sem,h4,Int.ofNat_lt,g1,e0,hs0,hsl,e1,e2,f2,cl2,m1,Int.toNat_natCast,beq_self_eq_true,bne_self_eq_false,show ¬ (M : Int) = 0 by omega,show (0 : Int) ≤ (i : Int) + 1 by omega,show (i : Int) + 1 < ((M + 1 : Nat) : Int) by omega]<;>try with_reducible rfl)|apply Yi|apply Yj|apply Yk|apply Yl|apply Ym|apply Yn)
  apply Ys
  ·simp -implicitDefEqProofs(maxSteps:=9^7)(disch:=first|exact Yo rfl|omega|(simp only[go_sem]<;>omega)|fail)only[go_sem,norm_eq,Ok.some]; with_reducible rfl
  exact ⟨h4,by simp,trivial⟩
 ·obtain rfl : i = M := by omega
  repeat(first|apply Ya|apply Yb|apply Yc|((first|apply Yd|apply Ye|apply Yf|apply Yg|apply Yh);simp -implicitDefEqProofs(maxSteps:=9^7)(disch:=first|exact Yo rfl|omega|(simp only[go_sem]<;>omega)|fail)only[go_sem,h4,Int.ofNat_lt,ks,ke]<;>try with_reducible rfl)|apply Yi|apply Yj|apply Yk|apply Yl|apply Ym|apply Yn)
end Go.Abs
