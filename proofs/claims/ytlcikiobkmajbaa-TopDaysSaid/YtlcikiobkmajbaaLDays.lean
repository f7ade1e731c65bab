/-
 Several texts: U2, LS1, LS2, LDays.
-/
import Derived.Test.YtlcikiobkmajbaaG6
import Derived.Test.YtlcikiobkmajbaaU1
import Derived.Test.YtlcikiobkmajbaaFlat
import Derived.Test.YtlcikiobkmajbaaLC2
import Derived.Test.YtlcikiobkmajbaaG5
set_option linter.all false
namespace Go.Abs
set_option maxRecDepth 10000
set_option maxHeartbeats 2000000
open Go.Abs.Beam (TakeA PairT checkT longT longR nT dT tmod_nat tdiv_nat)
def pubT (a b c d : Nat) : TakeA := ⟨20 + (a % 81 : Nat), 1 + (b % 5 : Nat), [⟨10 + (c % 91 : Nat), 10 + (d % 91 : Nat)⟩], 100000 + 1000 * (a : Int)⟩
theorem pubT_ok (a b c d : Nat) (ha : a < 256) : checkT (pubT a b c d) = 0 := by
 unfold checkT;rw [if_neg (by simp [pubT]), if_pos]
 refine ⟨⟨by simp only [pubT]; omega, by simp only [pubT]; omega, by simp only [pubT]; omega⟩, fun p hp => ?_⟩
 rw [List.mem_singleton.1 hp];exact ⟨by simp only; omega, by simp only; omega⟩
theorem pubSpan_ok (a b : Int) : lim F 14 [iv a, iv b] = some (.agg [iv a, iv b], []) := by
 refine Yr (fn:=a14) (k:=2) (res:=[.cell 4 2 true]) rfl rfl rfl (by simp -implicitDefEqProofs(maxSteps:=9^7)(disch:=first|exact Yo rfl|omega|(simp only[go_sem]<;>omega)|fail)only[go_sem]) ?_
 try delta mvA
 try delta opA
 try delta tA
 simp -implicitDefEqProofs(maxSteps:=9^7)(disch:=first|exact Yo rfl|omega|(simp only[go_sem]<;>omega)|fail)only[go_sem]
 repeat(first|apply Ya|apply Yb|apply Yc|((first|apply Yd|apply Ye|apply Yf|apply Yg|apply Yh);simp -implicitDefEqProofs(maxSteps:=9^7)(disch:=first|exact Yo rfl|omega|(simp only[go_sem]<;>omega)|fail)only[go_sem]<;>try with_reducible rfl)|apply Yi|apply Yj|apply Yk|apply Yl|apply Ym|apply Yn)
theorem pubTake_ok (a b c d : Nat) (ha : a < 256) (hb : b < 256) (hc : c < 256) (hd : d < 256) : lim F 8 [.agg [.int .u8 (a : Int), .int .u8 (b : Int), .int .u8 (c : Int), .int .u8 (d : Int)]] = some (.agg [iv (pubT a b c d).rat, iv (pubT a b c d).step, .own 2 ((pubT a b c d).pairs.map PairT.av), iv (pubT a b c d).round], []) := by
 have e0 := tmod_nat a 81;have e1 := tmod_nat b 5;have e2 := tmod_nat c 91;have e3 := tmod_nat d 91;rw [show ((81 : Nat) : Int) = 81 from rfl] at e0
 rw [show ((5 : Nat) : Int) = 5 from rfl] at e1
 rw [show ((91 : Nat) : Int) = 91 from rfl] at e2 e3
 unfold pubT;refine Yr (fn:=a8) (k:=1) (res:=[.cell 2 4 true]) rfl rfl rfl (by simp -implicitDefEqProofs(maxSteps:=9^7)(disch:=first|exact Yo rfl|omega|(simp only[go_sem]<;>omega)|fail)only[go_sem]) ?_
 try delta mvA
 try delta opA
 try delta tA
 simp -implicitDefEqProofs(maxSteps:=9^7)(disch:=first|exact Yo rfl|omega|(simp only[go_sem]<;>omega)|fail)only[go_sem]
 repeat(first|apply Ya|apply Yb|apply Yc|((first|apply Yd|apply Ye|apply Yf|apply Yg|apply Yh);simp -implicitDefEqProofs(maxSteps:=9^7)(disch:=first|exact Yo rfl|omega|(simp only[go_sem]<;>omega)|fail)only[go_sem, e0, e1, e2, e3, PairT.av.eq_1]<;>try with_reducible rfl)|apply Yi|apply Yj|apply Yk|apply Yl|apply Ym|apply Yn)
theorem pubGear_ok (t : TakeA) (hl : t.pairs.length ≤ 1000) : lim F 10 [t.av] = some (.agg [iv t.rat, iv t.step, .own 2 (t.pairs.map PairT.av), iv t.round], []) := by
 have hln : (t.pairs.map PairT.av).length = t.pairs.length := by simp
 have htk : (t.pairs.map PairT.av).take t.pairs.length = t.pairs.map PairT.av := List.take_of_length_le (by simp)
 unfold TakeA.av;generalize t.pairs.map PairT.av = ps at *;refine Yr (fn:=a10) (k:=1) (res:=[.cell 2 4 true]) rfl rfl rfl (by simp -implicitDefEqProofs(maxSteps:=9^7)(disch:=first|exact Yo rfl|omega|(simp only[go_sem]<;>omega)|fail)only[go_sem]) ?_
 try delta mvA
 try delta opA
 try delta tA
 simp -implicitDefEqProofs(maxSteps:=9^7)(disch:=first|exact Yo rfl|omega|(simp only[go_sem]<;>omega)|fail)only[go_sem]
 repeat(first|apply Ya|apply Yb|apply Yc|((first|apply Yd|apply Ye|apply Yf|apply Yg|apply Yh);simp -implicitDefEqProofs(maxSteps:=9^7)(disch:=first|exact Yo rfl|omega|(simp only[go_sem]<;>omega)|fail)only[go_sem, hln, htk]<;>try with_reducible rfl)|apply Yi|apply Yj|apply Yk|apply Yl|apply Ym|apply Yn)
end Go.Abs
set_option linter.all false
namespace Go.Abs
set_option maxRecDepth 10000
set_option maxHeartbeats 8000000
open Go.Abs.Lo (OrdA MillA)
abbrev TriB := Fin 256 × Fin 256 × Fin 256
def triV (x : TriB) : AV := .agg [.int .u8 (x.1.1 : Int), .int .u8 (x.2.1.1 : Int), .int .u8 (x.2.2.1 : Int)]
def trisV (l : List TriB) : List AV := l.map triV
def shedO (x : TriB) (day ch : Int) : OrdA := ⟨1 + (x.1.1 % 10 : Nat), (x.2.1.1 % 3 : Nat), 1 + (x.2.2.1 % 12 : Nat), 0, day + (1 + (x.2.2.1 % 12 : Nat) + ch) + (x.2.1.1 / 3 % 9 : Nat)⟩
def shedD (l : List TriB) (ch : Int) : Nat → Int
 | 0 => 0
 | k + 1 => shedD l ch k + (1 + ((l.getD k (0, 0, 0)).2.2.1 % 12 : Nat) + ch)
def shedL (l : List TriB) (ch : Int) (k : Nat) : List OrdA := (List.range k).map fun i => shedO (l.getD i (0, 0, 0)) (shedD l ch i) ch
def shedM (looms change : Nat) (l : List TriB) : MillA := ⟨List.replicate (looms % 3 + 1) 10, (change % 4 : Nat), shedL l (change % 4 : Nat) (min l.length 6)⟩
theorem tris_len (l : List TriB) : (trisV l).length = l.length := by simp [trisV]
theorem tris_get {l : List TriB} {i : Nat} (h : i < l.length) : (trisV l)[i]? = some (triV (l.getD i (0, 0, 0))) := by
 unfold trisV;rw [List.getElem?_map, List.getElem?_eq_getElem h, List.getD_eq_getElem?_getD, List.getElem?_eq_getElem h]; rfl
theorem shedL_len (l : List TriB) (ch : Int) (k : Nat) : (shedL l ch k).length = k := by simp [shedL]
theorem shedV_succ (l : List TriB) (ch : Int) (k : Nat) : (shedL l ch (k + 1)).map ordV = (shedL l ch k).map ordV ++ [ordV (shedO (l.getD k (0, 0, 0)) (shedD l ch k) ch)] := by
 unfold shedL;rw [List.range_succ, List.map_append, List.map_append]; rfl
theorem shedD_in (l : List TriB) (ch : Int) (h : 0 ≤ ch ∧ ch ≤ 3) : ∀ k : Nat, 0 ≤ shedD l ch k ∧ shedD l ch k ≤ 15 * k
 | 0 => by simp [shedD]
 | k + 1 => by
  have := shedD_in l ch h k;have := Nat.mod_lt (l.getD k (0, 0, 0)).2.2.1 (show 0 < 12 by omega)
  unfold shedD;omega
theorem pubShed_ok (looms change : Nat) (h1 : looms < 256) (h2 : change < 256) (l : List TriB) : lim F 7 [.int .u8 (looms : Int), .int .u8 (change : Int), .list 3 (trisV l)] = some (.tuple [.agg [.own 1 (widV (shedM looms change l)), iv (shedM looms change l).ch], .own 5 (ordsV (shedM looms change l))], []) := by
 have e4 : Int.tmod (change : Int) 4 = ((change % 4 : Nat) : Int) := by rw [Int.tmod_eq_emod_of_nonneg (Int.natCast_nonneg _)]; rfl
 have e3 : Int.tmod (looms : Int) 3 = ((looms % 3 : Nat) : Int) := by rw [Int.tmod_eq_emod_of_nonneg (Int.natCast_nonneg _)]; rfl
 have m4 := Nat.mod_lt change (show 0 < 4 by omega)
 have m3 := Nat.mod_lt looms (show 0 < 3 by omega)
 have lt := tris_len l;have hg := fun i (hi : i < l.length) => tris_get hi
 have hst := shedV_succ l (change % 4 : Nat);have hD := shedD_in l (change % 4 : Nat) (by omega)
 have hsl := fun k => shedL_len l (change % 4 : Nat) k
 have eW : widV (shedM looms change l) = List.replicate (looms % 3 + 1) (iv 10) := by unfold widV shedM; rw [List.map_replicate]
 have eO : ordsV (shedM looms change l) = (shedL l (change % 4 : Nat) (min l.length 6)).map ordV := rfl;have eC : (shedM looms change l).ch = (change % 4 : Nat) := rfl;rw [eW, eO, eC];unfold triV at hg;generalize trisV l = LV at *;generalize change % 4 = ch at *;generalize looms % 3 = lm at *;refine Yr (fn:=a7) (k:=3) (res:=[.cell 6 2 true, .tmp 7]) rfl rfl rfl (by simp -implicitDefEqProofs(maxSteps:=9^7)(disch:=first|exact Yo rfl|omega|(simp only[go_sem]<;>omega)|fail)only[go_sem]) ?_
 try delta mvA
 try delta opA
 try delta tA
 simp -implicitDefEqProofs(maxSteps:=9^7)(disch:=first|exact Yo rfl|omega|(simp only[go_sem]<;>omega)|fail)only[go_sem]
 repeat(first|apply Ya|apply Yb|apply Yc|((first|apply Yd|apply Ye|apply Yf|apply Yg|apply Yh);simp -implicitDefEqProofs(maxSteps:=9^7)(disch:=first|exact Yo rfl|omega|(simp only[go_sem]<;>omega)|fail)only[go_sem, e4]<;>try with_reducible rfl)|apply Yi|apply Yj|apply Yk|apply Yl|apply Ym|apply Yn)
 apply Yt (lm + 1) (fun i => ⟨[(0, .int .u8 (looms : Int)), (2, .list 3 LV), (6, .ptr 384 0 0), (8, .ptr 512 0 0), (9, .slice 576 0 0), (10, iv 0), (11, iv (i : Int))], [(384, .box [.slice 306144 0 0, iv 0]), (512, .box [.slice 308192 0 i, iv (ch : Int)]), (576, .arr 5 []), (306144, .arr 1 []), (308192, .arr 1 (List.replicate i (iv 10)))], [], 10000000⟩) (fun _ => True)
 ·simp -implicitDefEqProofs(maxSteps:=9^7)(disch:=first|exact Yo rfl|omega|(simp only[go_sem]<;>omega)|fail)only[go_sem, norm_eq, Ok.some]
  rfl
 ·trivial
 intro i hi _;by_cases h' : i ≤ lm
 ·have t1 : (List.replicate i (iv 10)).take i = List.replicate i (iv 10) := List.take_of_length_le (by simp)
  have n1 : (List.replicate i (iv 10)).length = i := by simp
  have r1 : List.replicate (i + 1) (iv 10) = List.replicate i (iv 10) ++ [iv 10] := List.replicate_succ';rw [r1];generalize List.replicate i (iv 10) = R at *;repeat(first|apply Ya|apply Yb|apply Yc|((first|apply Yd|apply Ye|apply Yf|apply Yg|apply Yh);simp -implicitDefEqProofs(maxSteps:=9^7)(disch:=first|exact Yo rfl|omega|(simp only[go_sem]<;>omega)|fail)only[go_sem, e3, t1, n1, show (i : Int) ≤ (lm : Int) by omega]<;>try with_reducible rfl)|apply Yi|apply Yj|apply Yk|apply Yl|apply Ym|apply Yn)
  apply Ys
  ·simp -implicitDefEqProofs(maxSteps:=9^7)(disch:=first|exact Yo rfl|omega|(simp only[go_sem]<;>omega)|fail)only[go_sem, norm_eq, Ok.some]; with_reducible rfl
  exact ⟨by omega, by simp, trivial⟩
 ·obtain rfl : i = lm + 1 := by omega
  have W1 : (List.replicate (lm + 1) (iv 10)).take (lm + 1) = List.replicate (lm + 1) (iv 10) := List.take_of_length_le (by simp)
  have W2 : (List.replicate (lm + 1) (iv 10)).length = lm + 1 := by simp
  have W3 : (List.replicate (lm + 1) (iv 10)).all AV.plain = true := by
   rw [List.all_eq_true];intro x hx;rw [List.eq_of_mem_replicate hx]; rfl
  generalize List.replicate (lm + 1) (iv 10) = WV at *;repeat(first|apply Ya|apply Yb|apply Yc|((first|apply Yd|apply Ye|apply Yf|apply Yg|apply Yh);simp -implicitDefEqProofs(maxSteps:=9^7)(disch:=first|exact Yo rfl|omega|(simp only[go_sem]<;>omega)|fail)only[go_sem, e3, show ¬ ((lm + 1 : Nat) : Int) ≤ (lm : Int) by omega]<;>try with_reducible rfl)|apply Yi|apply Yj|apply Yk|apply Yl|apply Ym|apply Yn)
  apply Yt (min l.length 6) (fun i => ⟨[(2, .list 3 LV), (6, .ptr 384 0 0), (8, .ptr 512 0 0), (9, .slice 576 0 i), (10, iv (shedD l (ch : Nat) i)), (12, iv (i : Int))], [(384, .box [.slice 306144 0 0, iv 0]), (512, .box [.slice 308192 0 (lm + 1), iv (ch : Int)]), (576, .arr 5 ((shedL l (ch : Nat) i).map ordV)), (306144, .arr 1 []), (308192, .arr 1 WV)], [], 10000000⟩) (fun _ => True)
  ·simp -implicitDefEqProofs(maxSteps:=9^7)(disch:=first|exact Yo rfl|omega|(simp only[go_sem]<;>omega)|fail)only[go_sem, norm_eq, Ok.some]
   rfl
  ·trivial
  intro i hi _;have o1 : ((shedL l (ch : Nat) i).map ordV).length = i := by simp [shedL]
  have o2 : ((shedL l (ch : Nat) i).map ordV).take i = (shedL l (ch : Nat) i).map ordV := List.take_of_length_le (by omega)
  have o3 : ((shedL l (ch : Nat) i).map ordV).all AV.plain = true := by
   rw [List.all_eq_true];intro x hx;obtain ⟨y, -, rfl⟩ := List.mem_map.1 hx;rfl
  by_cases h' : i < min l.length 6
  ·have g1 := hg i (by omega)
   have s1 := hst i;have d1 := hD i;have dS : shedD l (ch : Nat) (i + 1) = shedD l (ch : Nat) i + (1 + ((l.getD i (0, 0, 0)).2.2.1 % 12 : Nat) + (ch : Nat)) := rfl;rw [dS, s1];generalize (shedL l (ch : Nat) i).map ordV = OV at *;unfold ordV shedO;have b1 := (l.getD i (0, 0, 0)).1.2;have b2 := (l.getD i (0, 0, 0)).2.1.2;have b3 := (l.getD i (0, 0, 0)).2.2.2;generalize (l.getD i (0, 0, 0)).1.1 = x1 at *;generalize (l.getD i (0, 0, 0)).2.1.1 = x2 at *;generalize (l.getD i (0, 0, 0)).2.2.1 = x3 at *;generalize shedD l (ch : Nat) i = day at *;have e1 : Int.tmod (x1 : Int) 10 = ((x1 % 10 : Nat) : Int) := by rw [Int.tmod_eq_emod_of_nonneg (Int.natCast_nonneg _)]; rfl
   have e2 : Int.tmod (x2 : Int) 3 = ((x2 % 3 : Nat) : Int) := by rw [Int.tmod_eq_emod_of_nonneg (Int.natCast_nonneg _)]; rfl
   have e5 : Int.tmod (x3 : Int) 12 = ((x3 % 12 : Nat) : Int) := by rw [Int.tmod_eq_emod_of_nonneg (Int.natCast_nonneg _)]; rfl
   have e6 : Int.tdiv (x2 : Int) 3 = ((x2 / 3 : Nat) : Int) := by rw [Int.tdiv_eq_ediv_of_nonneg (Int.natCast_nonneg _)]; rfl
   have e7 : Int.tmod ((x2 / 3 : Nat) : Int) 9 = ((x2 / 3 % 9 : Nat) : Int) := by rw [Int.tmod_eq_emod_of_nonneg (Int.natCast_nonneg _)]; rfl
   have q1 := Nat.mod_lt x1 (show 0 < 10 by omega)
   have q2 := Nat.mod_lt x2 (show 0 < 3 by omega)
   have q3 := Nat.mod_lt x3 (show 0 < 12 by omega)
   have q4 := Nat.mod_lt (x2 / 3) (show 0 < 9 by omega)
   have q5 : x2 / 3 ≤ 255 := by omega
   generalize x2 / 3 % 9 = y4 at *;generalize x2 / 3 = y5 at *;generalize x1 % 10 = y1 at *;generalize x2 % 3 = y2 at *;generalize x3 % 12 = y3 at *;repeat(first|apply Ya|apply Yb|apply Yc|((first|apply Yd|apply Ye|apply Yf|apply Yg|apply Yh);simp -implicitDefEqProofs(maxSteps:=9^7)(disch:=first|exact Yo rfl|omega|(simp only[go_sem]<;>omega)|fail)only[go_sem, lt, show i < l.length by omega, show i < 6 by omega, show (i : Int) < 6 by omega, Int.ofNat_lt, g1, e1, e2, e5, e6, e7, o1, o2, Int.toNat_natCast]<;>try with_reducible rfl)|apply Yi|apply Yj|apply Yk|apply Yl|apply Ym|apply Yn)
   apply Ys
   ·simp -implicitDefEqProofs(maxSteps:=9^7)(disch:=first|exact Yo rfl|omega|(simp only[go_sem]<;>omega)|fail)only[go_sem, norm_eq, Ok.some]; with_reducible rfl
   exact ⟨h', by simp, trivial⟩
  ·obtain rfl : i = min l.length 6 := by omega
   generalize hOV : (shedL l (ch : Nat) (min l.length 6)).map ordV = OV at *;by_cases c1 : min l.length 6 < l.length
   ·repeat(first|apply Ya|apply Yb|apply Yc|((first|apply Yd|apply Ye|apply Yf|apply Yg|apply Yh);simp -implicitDefEqProofs(maxSteps:=9^7)(disch:=first|exact Yo rfl|omega|(simp only[go_sem]<;>omega)|fail)only[go_sem, lt, Int.ofNat_lt, c1, show ¬ (min l.length 6 : Nat) < (6 : Nat) by omega, show ¬ ((min l.length 6 : Nat) : Int) < 6 by omega, W1, W2, W3, o1, o2, o3]<;>try with_reducible rfl)|apply Yi|apply Yj|apply Yk|apply Yl|apply Ym|apply Yn)
   ·repeat(first|apply Ya|apply Yb|apply Yc|((first|apply Yd|apply Ye|apply Yf|apply Yg|apply Yh);simp -implicitDefEqProofs(maxSteps:=9^7)(disch:=first|exact Yo rfl|omega|(simp only[go_sem]<;>omega)|fail)only[go_sem, lt, Int.ofNat_lt, c1, W1, W2, W3, o1, o2, o3]<;>try with_reducible rfl)|apply Yi|apply Yj|apply Yk|apply Yl|apply Ym|apply Yn)
end Go.Abs
set_option linter.all false
namespace Go.Abs
set_option maxRecDepth 10000
set_option maxHeartbeats 8000000
open Go.Abs.Lo (OrdA MillA Tog loomsR InRow sumD)
theorem shedM_o (looms change : Nat) (l : List TriB) {i : Nat} (h : i < min l.length 6) : (shedM looms change l).o i = shedO (l.getD i (0, 0, 0)) (shedD l (change % 4 : Nat) i) (change % 4 : Nat) := by
 unfold MillA.o shedM shedL;dsimp only;rw [List.getD_eq_getElem?_getD, List.getElem?_map, List.getElem?_range h]; rfl
theorem shedM_n (looms change : Nat) (l : List TriB) : (shedM looms change l).os.length = min l.length 6 := shedL_len _ _ _
theorem shedM_ok (looms change : Nat) (l : List TriB) : (shedM looms change l).Ok where
 l1 := by simp only [shedM, List.length_replicate]; have := Nat.mod_lt looms (show 0 < 3 by omega); omega
 w1 := fun w hw => by
  have := List.eq_of_mem_replicate hw;omega
 ch1 := by simp only [shedM]; have := Nat.mod_lt change (show 0 < 4 by omega); omega
 n6 := by rw [shedM_n]; omega
 os1 := fun x hx => by
  unfold shedM shedL at hx;obtain ⟨i, hi, rfl⟩ := List.mem_map.1 hx;have hi := List.mem_range.1 hi;have m4 := Nat.mod_lt change (show 0 < 4 by omega)
  have hd := shedD_in l (change % 4 : Nat) (by omega) i
  unfold shedO;generalize l.getD i (0, 0, 0) = y at *;generalize shedD l (change % 4 : Nat) i = day at *;have q1 := Nat.mod_lt y.1.1 (show 0 < 10 by omega)
  have q2 := Nat.mod_lt y.2.1.1 (show 0 < 3 by omega)
  have q3 := Nat.mod_lt y.2.2.1 (show 0 < 12 by omega)
  have q4 := Nat.mod_lt (y.2.1.1 / 3) (show 0 < 9 by omega)
  exact ⟨by dsimp only; omega, by dsimp only; omega, by dsimp only; omega, by dsimp only; omega, by dsimp only; omega⟩
theorem shedM_sum (looms change : Nat) (l : List TriB) : ∀ k, k ≤ min l.length 6 → sumD (shedM looms change l) k = shedD l (change % 4 : Nat) k
 | 0, _ => rfl
 | k + 1, h => by
  unfold sumD shedD;rw [shedM_sum looms change l k (by omega), shedM_o looms change l (by omega)]
  unfold shedO;dsimp only [shedM];omega
theorem shedM_row (looms change : Nat) (l : List TriB) : InRow (shedM looms change l) where
 ok := shedM_ok looms change l
 w := fun i hi => by
  rw [shedM_n] at hi;rw [shedM_o looms change l hi];have q1 := Nat.mod_lt (l.getD i (0, 0, 0)).1.1 (show 0 < 10 by omega)
  have e : (shedM looms change l).wd 0 = 10 := rfl;rw [e];unfold shedO;dsimp only;omega
 e := fun i hi => by
  rw [shedM_n] at hi;rw [shedM_o looms change l hi]; rfl
 t := fun i hi => by
  rw [shedM_n] at hi;rw [shedM_sum looms change l (i + 1) (by omega), shedM_o looms change l hi]
  unfold shedO;dsimp only;rw [shedD];omega
theorem pubOrders_ok (es : List AV) (hp : es.all AV.plain = true) (h : es.length ≤ 1000) : lim F 13 [.list 5 es] = some (.own 5 es, []) := by
 have htk : es.take es.length = es := List.take_of_length_le (by omega)
 refine Yr (fn:=a13) (k:=1) (res:=[.tmp 2]) rfl rfl rfl (by simp -implicitDefEqProofs(maxSteps:=9^7)(disch:=first|exact Yo rfl|omega|(simp only[go_sem]<;>omega)|fail)only[go_sem]) ?_
 try delta mvA
 try delta opA
 try delta tA
 simp -implicitDefEqProofs(maxSteps:=9^7)(disch:=first|exact Yo rfl|omega|(simp only[go_sem]<;>omega)|fail)only[go_sem]
 repeat(first|apply Ya|apply Yb|apply Yc|((first|apply Yd|apply Ye|apply Yf|apply Yg|apply Yh);simp -implicitDefEqProofs(maxSteps:=9^7)(disch:=first|exact Yo rfl|omega|(simp only[go_sem]<;>omega)|fail)only[go_sem, htk, hp]<;>try with_reducible rfl)|apply Yi|apply Yj|apply Yk|apply Yl|apply Ym|apply Yn)
theorem pubWidths_ok (es : List AV) (c : Int) (hp : es.all AV.plain = true) (h : es.length ≤ 1000) : lim F 12 [.agg [.list 1 es, iv c]] = some (.agg [.own 1 es, iv c], []) := by
 have htk : es.take es.length = es := List.take_of_length_le (by omega)
 refine Yr (fn:=a12) (k:=1) (res:=[.cell 2 2 true]) rfl rfl rfl (by simp -implicitDefEqProofs(maxSteps:=9^7)(disch:=first|exact Yo rfl|omega|(simp only[go_sem]<;>omega)|fail)only[go_sem]) ?_
 try delta mvA
 try delta opA
 try delta tA
 simp -implicitDefEqProofs(maxSteps:=9^7)(disch:=first|exact Yo rfl|omega|(simp only[go_sem]<;>omega)|fail)only[go_sem]
 repeat(first|apply Ya|apply Yb|apply Yc|((first|apply Yd|apply Ye|apply Yf|apply Yg|apply Yh);simp -implicitDefEqProofs(maxSteps:=9^7)(disch:=first|exact Yo rfl|omega|(simp only[go_sem]<;>omega)|fail)only[go_sem, htk, hp]<;>try with_reducible rfl)|apply Yi|apply Yj|apply Yk|apply Yl|apply Ym|apply Yn)
theorem ords_plain (m : MillA) : (ordsV m).all AV.plain = true := by
 rw [List.all_eq_true];intro x hx;obtain ⟨y, -, rfl⟩ := List.mem_map.1 hx;rfl
theorem wid_plain (m : MillA) : (widV m).all AV.plain = true := by
 rw [List.all_eq_true];intro x hx;obtain ⟨y, -, rfl⟩ := List.mem_map.1 hx;rfl
end Go.Abs
set_option linter.all false
namespace Go.Abs
set_option maxRecDepth 10000
set_option maxHeartbeats 8000000
open Go.Abs.Beam (TakeA PairT checkT nT dT tmod_nat picksOf picksE WarpA needE warpE clothV)
open Go.Abs.Lo (OrdA MillA Tog loomsR InRow)
theorem pubT_less (a b c d : Nat) : dT (pubT a b c d) ≤ nT (pubT a b c d) := by
 have h1 : Beam.denT (pubT a b c d) ≤ 10000 := by
  unfold Beam.denT pubT;simp only [Beam.denP, Int.mul_one];have h1 := Nat.mod_lt a (show 0 < 81 by omega)
  have h2 := Nat.mod_lt d (show 0 < 91 by omega)
  have := Int.mul_le_mul (show (20 + ((a % 81 : Nat) : Int)) ≤ 100 by omega) (show (10 + ((d % 91 : Nat) : Int)) ≤ 100 by omega) (by omega) (by omega)
  omega
 have h2 : 10000 ≤ Beam.numT (pubT a b c d) := by
  unfold Beam.numT pubT;simp only [Beam.numP, Int.mul_one];have g1 := Int.mul_le_mul (show (10000 : Int) ≤ 100000 + 1000 * (a : Int) by omega) (show (1 : Int) ≤ 1 + ((b % 5 : Nat) : Int) by omega) (by omega) (by omega)
  have g2 := Int.mul_le_mul (show (10000 : Int) ≤ (100000 + 1000 * (a : Int)) * (1 + ((b % 5 : Nat) : Int)) by omega) (show (1 : Int) ≤ 10 + ((c % 91 : Nat) : Int) by omega) (by omega) (by omega)
  omega
 unfold nT dT;have : (Beam.denT (pubT a b c d)).toNat / Beam.gT (pubT a b c d) ≤ (Beam.numT (pubT a b c d)).toNat / Beam.gT (pubT a b c d) := Nat.div_le_div_right (by omega)
 omega
def yG (K : Int) (n : Int) : Int := n * K / 1000
theorem yG_add (K a b : Int) : yG K a + yG K b ≤ yG K (a + b) := by
 unfold yG;rw [Int.add_mul];omega
structure DaysTo (t : TakeA) (K : Int) (i : Nat) (all sum needs : Int) : Prop where
 a0 : 0 ≤ all
 a1 : all ≤ 1200000 * i
 s0 : 0 ≤ sum
 s1 : sum ≤ 1200000 * i
 n0 : 0 ≤ needs
 n1 : needs ≤ 1500000 * i
 p : all * nT t ≤ sum * dT t
 y : sum ≤ yG K needs
theorem DaysTo.next {t : TakeA} {K : Int} {i : Nat} {all sum needs w daily n : Int} (h : DaysTo t K i all sum needs) (hw : 1 ≤ w ∧ w ≤ 12) (hd : 0 ≤ daily ∧ daily ≤ 100000) (hn : 0 ≤ n ∧ n ≤ 1500000) (hp : daily * nT t ≤ 100000 * dT t) (hy : w * 100000 ≤ yG K n) :
  DaysTo t K (i + 1) (all + w * daily) (sum + w * 100000) (needs + n) where
 a0 := by have := Int.mul_nonneg (show 0 ≤ w by omega) hd.1; have := h.a0; omega
 a1 := by
  have := Int.mul_le_mul hw.2 hd.2 hd.1 (by omega)
  have := h.a1;omega
 s0 := by have := h.s0; omega
 s1 := by have := h.s1; omega
 n0 := by have := h.n0; omega
 n1 := by have := h.n1; omega
 p := by
  have h1 := h.p;have h2 := Int.mul_le_mul_of_nonneg_left hp (show 0 ≤ w by omega)
  rw [Int.add_mul, Int.add_mul, Int.mul_assoc, Int.mul_assoc];omega
 y := by
  have h1 := yG_add K needs n;have h2 := h.y;omega
theorem cloth_K {c n : Int} (h : 0 ≤ n) (hc : c ≤ 1000) : clothV 0 c 0 n = yG (1000 - c) n := by
 unfold clothV yG;have h1 : n * (1000 + 0) / 1000 = n := by omega
 rw [h1, Int.sub_zero];have := Int.ediv_nonneg (Int.mul_nonneg h (show 0 ≤ 1000 - c by omega)) (show (0 : Int) ≤ 1000 by omega)
 omega
def warpD (s c0 c1 : Nat) (n : Int) : WarpA := ⟨n, n, 0, s, c0, c0 + c1, 0, 0⟩
theorem warpD_ok {s c0 c1 : Nat} (h1 : s ≤ 100) (h2 : c0 + c1 ≤ 148) {n : Int} (h : 0 ≤ n ∧ n ≤ 10000000000) : (warpD s c0 c1 n).Ok := by
 unfold warpD;refine ⟨⟨?_, ?_, ?_⟩, ⟨?_, ?_, ?_⟩, ⟨?_, ?_, ?_⟩, ⟨?_, ?_, ?_⟩⟩ <;> dsimp only <;> omega
theorem need_D {s c0 c1 : Nat} (h1 : s ≤ 100) (h2 : c0 + c1 ≤ 148) {c : Int} (hc : 0 ≤ c ∧ c ≤ 7200000) : needE (warpD s c0 c1 0) c = 0 ∧ c ≤ yG (1000 - (c0 + c1 : Nat)) (((warpD s c0 c1 0).need c : Nat) : Int) ∧
  ∀ n : Int, 0 ≤ n → c ≤ yG (1000 - (c0 + c1 : Nat)) n → (((warpD s c0 c1 0).need c : Nat) : Int) ≤ n := by
 have hk := warpD_ok h1 h2 (n := 0) (by omega)
 have e : ∀ n : Nat, clothV (warpD s c0 c1 0).sl (warpD s c0 c1 0).ch (warpD s c0 c1 0).wh n = yG (1000 - (c0 + c1 : Nat)) n := fun n => by
  have := cloth_K (c := (c0 + c1 : Nat)) (n := n) (by omega) (by omega)
  exact this
 have hle : ∀ n : Nat, c ≤ yG (1000 - (c0 + c1 : Nat)) n → (warpD s c0 c1 0).need c ≤ n := fun n hn => by
  rcases Nat.lt_or_ge n ((warpD s c0 c1 0).need c) with h | h
  ·have := of_decide_eq_false (Beam.firstP_no h)
   rw [e n] at this;exact absurd hn this
  ·exact h
 have hbig : c ≤ yG (1000 - (c0 + c1 : Nat)) ((10000000 : Nat) : Int) := by
  unfold yG;have := Int.mul_le_mul (Int.le_refl ((10000000 : Nat) : Int)) (show (852 : Int) ≤ 1000 - ((c0 + c1 : Nat) : Int) by omega) (by omega) (by omega)
  omega
 have hn := hle 10000000 hbig;refine ⟨?_, ?_, fun n h0 hn => ?_⟩
 ·unfold needE
  rw [if_pos hk, if_pos (by omega), if_pos (by omega)]
 ·have := Beam.firstP_yes (p := fun n => decide (c ≤ clothV (warpD s c0 c1 0).sl (warpD s c0 c1 0).ch (warpD s c0 c1 0).wh n)) (N := 10000000001) (show (warpD s c0 c1 0).need c < 10000000001 by omega)
  have := of_decide_eq_true this;rw [← e];exact this
 ·have := hle n.toNat (by rw [show ((n.toNat : Nat) : Int) = n by omega]; exact hn)
  omega
theorem need_small {s c0 c1 : Nat} (h1 : s ≤ 100) (h2 : c0 + c1 ≤ 148) {c : Int} (hc : 0 ≤ c ∧ c ≤ 1200000) : (((warpD s c0 c1 0).need c : Nat) : Int) ≤ 1500000 :=
 (need_D h1 h2 (c := c) (by omega)).2.2 1500000 (by omega) (by
  unfold yG;have := Int.mul_le_mul (Int.le_refl (1500000 : Int)) (show (852 : Int) ≤ 1000 - ((c0 + c1 : Nat) : Int) by omega) (by omega) (by omega)
  omega)
theorem days_main (kb : lim F 17 [] = some (.bool true, [])) (ks : lim F 18 [] = some (.bool true, [])) (l : List TriB) (a b c d lo : Nat) (ha : a < 256) (hb : b < 256) (hc : c < 256) (hd : d < 256) (hl : lo < 256) :
  lim F 3 [.list 3 (trisV l), .agg [.int .u8 (a : Int), .int .u8 (b : Int), .int .u8 (c : Int), .int .u8 (d : Int)], .int .u8 (lo : Int)] = some (.bool true, []) := by
 have hSh := pubShed_ok lo a hl ha l;have hm := shedM_ok lo a l;have hrow := shedM_row lo a l;have hn6 := shedM_n lo a l;have hv12 : ∀ i, i < (shedM lo a l).os.length → 1 ≤ ((shedM lo a l).o i).v ∧ ((shedM lo a l).o i).v ≤ 12 := fun i hi => by
  rw [hn6] at hi;rw [shedM_o lo a l hi];unfold shedO;dsimp only;have := Nat.mod_lt (l.getD i (0, 0, 0)).2.2.1 (show 0 < 12 by omega)
  omega
 have hT := pubTake_ok a b c d ha hb hc hd;have hck := pubT_ok a b c d ha;have hdn := pubT_less a b c d;have hGe := pubGear_ok (pubT a b c d) (by simp [pubT])
 have hPk := fun n => Beam.Picks_ok (pubT a b c d) n
 have hpl1 : (pubT a b c d).pairs.length = 1 := rfl;generalize pubT a b c d = t at *;have nb := Beam.nT_bound hck;have hPk0 : ∀ n : Int, 0 ≤ n → n ≤ 10000000000 → lim F 9 [t.av, iv n] = some (.tuple [iv (picksOf t n), iv 0], []) := fun n h0 h1 => by
  have e : picksE t n = 0 := by unfold picksE; rw [if_pos hck, if_pos ⟨h0, h1⟩]
  have := hPk n;rw [e, if_pos rfl] at this;exact this
 have hP1 := hPk0 100000 (by omega) (by omega)
 have hd0 : 0 ≤ picksOf t 100000 := (Beam.picks_bound hck (n := 100000) (by omega)).2.1
 have hdp : picksOf t 100000 * nT t ≤ 100000 * dT t := by
  unfold picksOf;exact Int.ediv_mul_le _ (by omega)
 have hd1 : picksOf t 100000 ≤ 100000 := by
  unfold picksOf;refine Int.ediv_le_of_le_mul (by omega) ?_
  exact Int.mul_le_mul_of_nonneg_left hdn (by omega)
 have hpw := wid_plain (shedM lo a l);have hpo := ords_plain (shedM lo a l);have lw := wid_len (shedM lo a l);have lo' := ord_len (shedM lo a l);have n6 := hm.n6;have l3 := hm.l1;have hW := pubWidths_ok (widV (shedM lo a l)) (shedM lo a l).ch hpw (by omega)
 have hO := pubOrders_ok (ordsV (shedM lo a l)) hpo (by omega)
 have htw : (widV (shedM lo a l)).take (shedM lo a l).ws.length = widV (shedM lo a l) := List.take_of_length_le (by omega)
 have hto : (ordsV (shedM lo a l)).take (shedM lo a l).os.length = ordsV (shedM lo a l) := List.take_of_length_le (by omega)
 obtain ⟨q, hPl, hq⟩ := Plan_ok (shedM lo a l) hm;have htog := hrow.tog (shedM lo a l).ws.length (by omega)
 obtain ⟨rs, rfl, hrl, hrok⟩ := (hq.resolve_right fun h => h.1 htog).2
 clear hq htog hrow;have hord := fun i (hi : i < (shedM lo a l).os.length) => ord_get hi
 have hoo := fun i (hi : i < (shedM lo a l).os.length) => hm.o hi
 have hpp := plan_plain rs (shedM lo a l).os.length;have hpn := plan_len rs (shedM lo a l).os.length;have htp : (planV rs (shedM lo a l).os.length).take (shedM lo a l).os.length = planV rs (shedM lo a l).os.length := List.take_of_length_le (by omega)
 have hpg := fun i (hi : i < (shedM lo a l).os.length) => plan_get (rs := rs) hi
 generalize shedM lo a l = m at *;have eb := tmod_nat b 100;have ec := tmod_nat c 100;have ed := tmod_nat d 50;rw [show ((100 : Nat) : Int) = 100 from rfl] at eb ec
 rw [show ((50 : Nat) : Int) = 50 from rfl] at ed
 have mb := Nat.mod_lt b (show 0 < 100 by omega)
 have mc := Nat.mod_lt c (show 0 < 100 by omega)
 have md := Nat.mod_lt d (show 0 < 50 by omega)
 have hs1 := pubSpan_ok 0 ((b % 100 : Nat) : Int);have hs2 := pubSpan_ok ((c % 100 : Nat) : Int) (((c % 100 : Nat) : Int) + ((d % 50 : Nat) : Int));have hs3 := fun n : Int => pubSpan_ok n n
 have hND := fun cl hcl => need_D (s := b % 100) (c0 := c % 100) (c1 := d % 50) (by omega) (by omega) (c := cl) hcl
 have hNS := fun cl hcl => need_small (s := b % 100) (c0 := c % 100) (c1 := d % 50) (by omega) (by omega) (c := cl) hcl
 have hNok := fun cl => Beam.Need_ok (warpD (b % 100) (c % 100) (d % 50) 0) cl
 have hGok := fun n => Beam.Gives_ok (warpD (b % 100) (c % 100) (d % 50) n)
 have hGE : ∀ n : Int, 0 ≤ n → n ≤ 10000000000 → warpE (warpD (b % 100) (c % 100) (d % 50) n) = 0 ∧ (warpD (b % 100) (c % 100) (d % 50) n).low = yG (1000 - ((c % 100 + d % 50 : Nat) : Int)) n := fun n h0 h1 => by
  refine ⟨if_pos (warpD_ok (by omega) (by omega) ⟨h0, h1⟩), ?_⟩
  have := cloth_K (c := ((c % 100 + d % 50 : Nat) : Int)) (n := n) h0 (by omega)
  exact this
 have hKe : ∀ n : Int, warpD (b % 100) (c % 100) (d % 50) n = ⟨n, n, 0, ((b % 100 : Nat) : Int), ((c % 100 : Nat) : Int), ((c % 100 : Nat) : Int) + ((d % 50 : Nat) : Int), 0, 0⟩ := fun n => rfl
 generalize hK : (1000 - ((c % 100 + d % 50 : Nat) : Int)) = K at *;generalize b % 100 = bb at *;generalize c % 100 = cc at *;generalize d % 50 = dd at *;have hPVl : (t.pairs.map PairT.av).length = 1 := by rw [List.length_map, hpl1]
 have hPVt : (t.pairs.map PairT.av).take 1 = t.pairs.map PairT.av := List.take_of_length_le (by omega)
 have hPVp : (t.pairs.map PairT.av).all AV.plain = true := by
  rw [List.all_eq_true];intro x hx;obtain ⟨y, -, rfl⟩ := List.mem_map.1 hx;rfl
 have hN2 : ∀ cl : Int, 0 ≤ cl ∧ cl ≤ 7200000 → lim F 15 [.agg [iv 0, iv 0, iv 0, iv (bb : Int), iv (cc : Int), iv ((cc : Int) + (dd : Int)), iv 0, iv 0], iv cl] = some (.tuple [iv (((warpD bb cc dd 0).need cl : Nat) : Int), iv 0], []) := fun cl hcl => by
  have h := hNok cl;rw [(hND cl hcl).1, if_pos rfl] at h;exact h
 have hG2 : ∀ n : Int, 0 ≤ n → n ≤ 10000000000 → lim F 16 [.agg [iv n, iv n, iv 0, iv (bb : Int), iv (cc : Int), iv ((cc : Int) + (dd : Int)), iv 0, iv 0]] = some (.tuple [.agg [iv (yG K n), iv (warpD bb cc dd n).high], iv 0], []) := fun n h0 h1 => by
  have h := hGok n;rw [(hGE n h0 h1).1, if_pos rfl, if_pos rfl, (hGE n h0 h1).2] at h;exact h
 obtain ⟨nd, hnd⟩ : ∃ nd : Int → Int, ∀ cl, (((warpD bb cc dd 0).need cl : Nat) : Int) = nd cl := ⟨_, fun _ => rfl⟩
 obtain ⟨hg, hhg⟩ : ∃ hg : Int → Int, ∀ n, (warpD bb cc dd n).high = hg n := ⟨_, fun _ => rfl⟩
 have hnd0 : ∀ cl, 0 ≤ nd cl := fun cl => by rw [← hnd]; omega
 have hND2 : ∀ cl : Int, 0 ≤ cl ∧ cl ≤ 7200000 → cl ≤ yG K (nd cl) ∧ ∀ n : Int, 0 ≤ n → cl ≤ yG K n → nd cl ≤ n := fun cl h => by
  have := (hND cl h).2;rw [hnd] at this;exact this
 simp only [hnd] at hN2 hNS;simp only [hhg] at hG2;clear hNok hGok hND hGE hKe hnd hhg hPk;unfold TakeA.av at hGe hPk0 hP1;unfold ordV at hord;unfold lrunV at hpg;generalize t.pairs.map PairT.av = PV at *;generalize hplV : planV rs m.os.length = PL at *;generalize trisV l = TV at *;generalize ordsV m = OV at *;generalize widV m = WV at *;generalize hdly : picksOf t 100000 = dly at *;have n5 : 0 ≤ dly := hd0;refine Yr (fn:=a3) (k:=3) (res:=[.tmp 6]) rfl rfl rfl (by simp -implicitDefEqProofs(maxSteps:=9^7)(disch:=first|exact Yo rfl|omega|(simp only[go_sem]<;>omega)|fail)only[go_sem]) ?_
 try delta mvA
 try delta opA
 try delta tA
 simp -implicitDefEqProofs(maxSteps:=9^7)(disch:=first|exact Yo rfl|omega|(simp only[go_sem]<;>omega)|fail)only[go_sem]
 repeat(first|apply Ya|apply Yb|apply Yc|((first|apply Yd|apply Ye|apply Yf|apply Yg|apply Yh);simp -implicitDefEqProofs(maxSteps:=9^7)(disch:=first|exact Yo rfl|omega|(simp only[go_sem]<;>omega)|fail)only[go_sem, hSh, hT, hGe, hP1, hPVl, hPVt, hPVp, hW, hO, hpw, hpo, lw, lo', htw, hto, hPl, hpp, hpn, htp, eb, ec, ed, hs1, hs2, show ¬ dly < 0 by omega, show ¬ (100000 : Int) < dly by omega]<;>try with_reducible rfl)|apply Yi|apply Yj|apply Yk|apply Yl|apply Ym|apply Yn)
 apply Yu m.os.length (fun i fr => ∃ all sum needs, fr = ⟨[(7, .ptr 448 0 0), (8, .slice 512 0 m.os.length), (9, .ptr 576 0 0), (10, iv dly), (12, .slice 768 0 m.os.length), (14, .ptr 896 0 0), (15, iv all), (16, iv sum), (17, iv needs), (18, iv (i : Int))], [(448, .box [.slice 307168 0 m.ws.length, iv m.ch]), (512, .arr 5 OV), (576, .box [iv t.rat, iv t.step, .slice 309218 0 1, iv t.round]), (768, .arr 3 PL), (896, .box [iv 0, iv 0, iv 0, iv (bb : Int), iv (cc : Int), iv ((cc : Int) + (dd : Int)), iv 0, iv 0]), (307168, .arr 1 WV), (309218, .arr 2 PV)], [], 10000000⟩ ∧ DaysTo t K i all sum needs)
 ·simp -implicitDefEqProofs(maxSteps:=9^7)(disch:=first|exact Yo rfl|omega|(simp only[go_sem]<;>omega)|fail)only[go_sem, norm_eq, Ok.some]
  exact ⟨0, 0, 0, rfl, by omega, by omega, by omega, by omega, by omega, by omega, by simp, by unfold yG; omega⟩
 rintro i fr hi ⟨all, sum, needs, rfl, hD⟩;have x0 := hD.a0;have x1 := hD.a1;have x2 := hD.s0;have x3 := hD.s1;have x4 := hD.n0;have x5 := hD.n1;by_cases h' : i < m.os.length
 ·have o1 := hord i h'
  have p1 := hpg i h';have v1 := hv12 i h';obtain ⟨r1, r2, r3⟩ := hrok i h';have ok1 := hoo i h';have e1 := ok1.e1;have t1 := ok1.t1;have c1 := hN2 ((m.o i).v * 100000) (by omega)
  have c2 := hND2 ((m.o i).v * 100000) (by omega)
  have c3 := hNS ((m.o i).v * 100000) (by omega)
  have c4 := hnd0 ((m.o i).v * 100000);have hD2 := hD.next v1 ⟨hd0, hd1⟩ ⟨c4, c3⟩ hdp c2.1;have c5 := hs3 (nd ((m.o i).v * 100000));have c6 := hG2 (nd ((m.o i).v * 100000)) c4 (by omega)
  have c7 := c2.1;generalize nd ((m.o i).v * 100000) = n at *;have w1 := Int.mul_nonneg (show 0 ≤ (m.o i).v by omega) hd0
  have w2 := Int.mul_le_mul v1.2 hd1 hd0 (by omega)
  generalize rAt rs i = r at *;generalize m.o i = x at *;repeat(first|apply Ya|apply Yb|apply Yc|((first|apply Yd|apply Ye|apply Yf|apply Yg|apply Yh);simp -implicitDefEqProofs(maxSteps:=9^7)(disch:=first|exact Yo rfl|omega|(simp only[go_sem]<;>omega)|fail)only[go_sem, h', hpn, Int.ofNat_lt, o1, p1, lw, lo', c1, c5, c6, Int.toNat_natCast, show ¬ ((r.1 : Nat) : Int) < 0 by omega, show ¬ (m.ws.length : Int) ≤ ((r.1 : Nat) : Int) by omega, show ¬ r.2 < 0 by omega, show ¬ x.t < r.2 + x.v by omega, show ¬ yG K n < x.v * 100000 by omega]<;>try with_reducible rfl)|apply Yi|apply Yj|apply Yk|apply Yl|apply Ym|apply Yn)
  apply Ys
  ·simp -implicitDefEqProofs(maxSteps:=9^7)(disch:=first|exact Yo rfl|omega|(simp only[go_sem]<;>omega)|fail)only[go_sem, norm_eq, Ok.some]; with_reducible rfl
  exact ⟨h', _, _, _, by simp, hD2⟩
 ·obtain rfl : i = m.os.length := by omega
  have c1 := hN2 sum (by omega)
  have c2 := hND2 sum (by omega)
  have c3 := c2.2 needs x4 hD.y;have c4 := hPk0 sum (by omega) (by omega)
  have c5 : all ≤ picksOf t sum := by
   unfold picksOf;exact Int.le_ediv_of_mul_le (by omega) hD.p
  have c6 := hnd0 sum;generalize nd sum = n at *;generalize picksOf t sum = p at *;repeat(first|apply Ya|apply Yb|apply Yc|((first|apply Yd|apply Ye|apply Yf|apply Yg|apply Yh);simp -implicitDefEqProofs(maxSteps:=9^7)(disch:=first|exact Yo rfl|omega|(simp only[go_sem]<;>omega)|fail)only[go_sem, h', hpn, Int.ofNat_lt, c1, c4, hGe, hPVl, hPVt, hPVp, c3, c5, kb, ks]<;>try with_reducible rfl)|apply Yi|apply Yj|apply Yk|apply Yl|apply Ym|apply Yn)
end Go.Abs
