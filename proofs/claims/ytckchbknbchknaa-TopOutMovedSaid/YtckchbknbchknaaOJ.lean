/-
 Several texts: OA, OH, OI, OJ.
-/
import Derived.Test.YtckchbknbchknaaCS
import Derived.Test.YtckchbknbchknaaEvI
import Derived.Test.YtckchbknbchknaaWpE
import Derived.Test.YtckchbknbchknaaV0
set_option linter.all false
namespace Go.Abs
set_option maxRecDepth 10000
set_option maxHeartbeats 4000000
abbrev intsV (l : List Int) : List AV := l.map fun n => iv n
theorem ints_plain (l : List Int) : (intsV l).all AV.plain = true := by
 rw [List.all_eq_true];intro x hx;obtain ⟨y, -, rfl⟩ := List.mem_map.1 hx;rfl
abbrev drAt (dr : List Int) (w : Nat) : Int := dr.getD w 0
theorem dr_get {dr : List Int} {w : Nat} (h : w < dr.length) : (intsV dr)[w]? = some (iv (drAt dr w)) := by
 unfold intsV drAt;rw [List.getElem?_map, List.getElem?_eq_getElem h, List.getD_eq_getElem?_getD, List.getElem?_eq_getElem h]; rfl
theorem ewithin1_ok (lo hi n : Int) : lim F 37 [iv n, .iptr (.agg [iv lo]) 0, .iptr (.agg [iv hi]) 0] = some (.bool (decide (n < lo ∨ hi < n)), []) := by
 by_cases h1 : n < lo <;> by_cases h2 : hi < n
 all_goals
  refine Yr (fn:=a37) (k:=3) (res:=[.tmp 4]) rfl rfl rfl (by simp -implicitDefEqProofs(maxSteps:=9^7)(disch:=first|exact Yo rfl|omega|(simp only[go_sem]<;>omega)|fail)only[go_sem]) ?_
  try delta mvA
  try delta opA
  try delta tA
  simp -implicitDefEqProofs(maxSteps:=9^7)(disch:=first|exact Yo rfl|omega|(simp only[go_sem]<;>omega)|fail)only[go_sem]
  repeat(first|apply Ya|apply Yb|apply Yc|((first|apply Yd|apply Ye|apply Yf|apply Yg|apply Yh);simp -implicitDefEqProofs(maxSteps:=9^7)(disch:=first|exact Yo rfl|omega|(simp only[go_sem]<;>omega)|fail)only[go_sem, h1, h2]<;>try with_reducible rfl)|apply Yi|apply Yj|apply Yk|apply Yl|apply Ym|apply Yn)
theorem ewithin_ok (lo hi : Int) (l : List Int) (hl : l.length < 1000000000) : lim F 23 [iv lo, iv hi, .list 1 (l.map fun n => iv n)] = some (.bool (l.all fun n => decide (lo ≤ n ∧ n ≤ hi)), []) := by
 have h := contains_ints l (fun n => decide (n < lo ∨ hi < n)) 37 (.agg [iv lo]) (.agg [iv hi]) hl (fun n _ => ewithin1_ok lo hi n)
 refine Yr (fn:=a23) (k:=3) (res:=[.tmp 6]) rfl rfl rfl (by simp -implicitDefEqProofs(maxSteps:=9^7)(disch:=first|exact Yo rfl|omega|(simp only[go_sem]<;>omega)|fail)only[go_sem]) ?_
 try delta mvA
 try delta opA
 try delta tA
 simp -implicitDefEqProofs(maxSteps:=9^7)(disch:=first|exact Yo rfl|omega|(simp only[go_sem]<;>omega)|fail)only[go_sem]
 repeat(first|apply Ya|apply Yb|apply Yc|((first|apply Yd|apply Ye|apply Yf|apply Yg|apply Yh);simp -implicitDefEqProofs(maxSteps:=9^7)(disch:=first|exact Yo rfl|omega|(simp only[go_sem]<;>omega)|fail)only[go_sem, h]<;>try with_reducible rfl)|apply Yi|apply Yj|apply Yk|apply Yl|apply Ym|apply Yn)
 simp only [Option.some.injEq, Prod.mk.injEq, AV.bool.injEq, and_true];rw [List.any_eq_not_all_not, Bool.not_not]
 congr 1
 funext n;by_cases h1 : n < lo <;> by_cases h2 : hi < n <;> simp [h1, h2] <;> omega
def idN (n : Nat) : List Int := (List.range n).map fun i : Nat => (i : Int)
theorem idN_succ (k : Nat) : intsV (idN (k + 1)) = intsV (idN k) ++ [iv (k : Int)] := by
 unfold idN intsV;rw [List.range_succ, List.map_append, List.map_append]; rfl
@[simp] theorem idN_len (k : Nat) : (idN k).length = k := by simp [idN]
theorem armMixed_nil (n : Nat) (h2 : n ≤ 1000) : lim F 4 [iv (n : Int), .list 1 []] = some (.own 1 (intsV (idN n)), []) := by
 have hln : ∀ k, (intsV (idN k)).length = k := fun k => by simp [intsV]
 have hst := idN_succ;have hpl : ∀ k, (intsV (idN k)).all AV.plain = true := fun k => ints_plain _
 refine Yr (fn:=a4) (k:=2) (res:=[.tmp 4]) rfl rfl rfl (by simp -implicitDefEqProofs(maxSteps:=9^7)(disch:=first|exact Yo rfl|omega|(simp only[go_sem]<;>omega)|fail)only[go_sem]) ?_
 try delta mvA
 try delta opA
 try delta tA
 simp -implicitDefEqProofs(maxSteps:=9^7)(disch:=first|exact Yo rfl|omega|(simp only[go_sem]<;>omega)|fail)only[go_sem]
 repeat(first|apply Ya|apply Yb|apply Yc|((first|apply Yd|apply Ye|apply Yf|apply Yg|apply Yh);simp -implicitDefEqProofs(maxSteps:=9^7)(disch:=first|exact Yo rfl|omega|(simp only[go_sem]<;>omega)|fail)only[go_sem]<;>try with_reducible rfl)|apply Yi|apply Yj|apply Yk|apply Yl|apply Ym|apply Yn)
 apply Yt n (fun i => ⟨[(0, iv (n : Int)), (1, .list 1 []), (5, .slice 320 0 i), (6, iv (i : Int))], [(320, .arr 1 (intsV (idN i)))], [], 10000000⟩) (fun _ => True)
 ·simp -implicitDefEqProofs(maxSteps:=9^7)(disch:=first|exact Yo rfl|omega|(simp only[go_sem]<;>omega)|fail)only[go_sem, norm_eq, Ok.some]
  rfl
 ·trivial
 intro i hi _;have n1 := hln i;have t1 : (intsV (idN i)).take i = intsV (idN i) := List.take_of_length_le (by omega)
 have p1 := hpl i;by_cases h' : i < n
 ·rw [hst i]
  clear hln hst hpl;generalize intsV (idN i) = L at *;repeat(first|apply Ya|apply Yb|apply Yc|((first|apply Yd|apply Ye|apply Yf|apply Yg|apply Yh);simp -implicitDefEqProofs(maxSteps:=9^7)(disch:=first|exact Yo rfl|omega|(simp only[go_sem]<;>omega)|fail)only[go_sem, h', Int.ofNat_lt, n1, t1]<;>try with_reducible rfl)|apply Yi|apply Yj|apply Yk|apply Yl|apply Ym|apply Yn)
  apply Ys
  ·simp -implicitDefEqProofs(maxSteps:=9^7)(disch:=first|exact Yo rfl|omega|(simp only[go_sem]<;>omega)|fail)only[go_sem, norm_eq, Ok.some]; with_reducible rfl
  exact ⟨h', by simp, trivial⟩
 ·obtain rfl : i = n := by omega
  clear hln hst hpl;generalize intsV (idN i) = L at *;repeat(first|apply Ya|apply Yb|apply Yc|((first|apply Yd|apply Ye|apply Yf|apply Yg|apply Yh);simp -implicitDefEqProofs(maxSteps:=9^7)(disch:=first|exact Yo rfl|omega|(simp only[go_sem]<;>omega)|fail)only[go_sem, h', Int.ofNat_lt, n1, t1, p1]<;>try with_reducible rfl)|apply Yi|apply Yj|apply Yk|apply Yl|apply Ym|apply Yn)
  apply Yt 0 (fun k => ⟨[(0, iv (i : Int)), (1, .list 1 []), (5, .slice 320 0 i), (7, iv (k : Int))], [(320, .arr 1 L)], [], 10000000⟩) (fun _ => True)
  ·simp -implicitDefEqProofs(maxSteps:=9^7)(disch:=first|exact Yo rfl|omega|(simp only[go_sem]<;>omega)|fail)only[go_sem, norm_eq, Ok.some]
   rfl
  ·trivial
  intro k hk _;obtain rfl : k = 0 := by omega
  repeat(first|apply Ya|apply Yb|apply Yc|((first|apply Yd|apply Ye|apply Yf|apply Yg|apply Yh);simp -implicitDefEqProofs(maxSteps:=9^7)(disch:=first|exact Yo rfl|omega|(simp only[go_sem]<;>omega)|fail)only[go_sem, n1, t1, p1, Int.lt_irrefl]<;>try with_reducible rfl)|apply Yi|apply Yj|apply Yk|apply Yl|apply Ym|apply Yn)
end Go.Abs
set_option linter.all false
namespace Go.Abs
set_option maxRecDepth 10000
set_option maxHeartbeats 4000000
def thE (l : List Int) (i : Nat) : AV := .agg [iv (i : Int), iv (drAt l i)]
def thV (l : List Int) (k : Nat) : List AV := (List.range k).map (thE l)
@[simp] theorem th_len (l : List Int) (k : Nat) : (thV l k).length = k := by simp [thV]
theorem th_get {l : List Int} {k i : Nat} (h : i < k) : (thV l k)[i]? = some (.agg [iv (i : Int), iv (drAt l i)]) := by
 unfold thV;rw [List.getElem?_map, List.getElem?_range h]; rfl
theorem th_succ (l : List Int) (k : Nat) : thV l (k + 1) = thV l k ++ [.agg [iv (k : Int), iv (drAt l k)]] := by
 unfold thV;rw [List.range_succ, List.map_append]; rfl
theorem th_plain (l : List Int) (k : Nat) : (thV l k).all AV.plain = true := by
 rw [List.all_eq_true];intro x hx;unfold thV at hx;obtain ⟨y, -, rfl⟩ := List.mem_map.1 hx;rfl
theorem threads_ok (l : List Int) (h0 : ∀ e ∈ l, 0 ≤ e) (hl : l.length ≤ 90) (h1 : 0 < l.length) : lim F 12 [.list 1 (intsV l)] = some (.own 2 (thV l l.length), []) := by
 have hg := fun i (hi : i < l.length) => dr_get (dr := l) hi
 have hln : (intsV l).length = l.length := by simp [intsV]
 have hne : ∀ i, i < l.length → ¬ drAt l i = -1 := fun i hi => by
  unfold drAt;rw [List.getD_eq_getElem?_getD, List.getElem?_eq_getElem hi];have := h0 _ (List.getElem_mem hi);simp only [Option.getD_some];omega
 have hst := th_succ l;have hpl := th_plain l;have htl := th_len l;generalize intsV l = L at *;generalize hn : l.length = n at *;refine Yr (fn:=a12) (k:=1) (res:=[.tmp 2]) rfl rfl rfl (by simp -implicitDefEqProofs(maxSteps:=9^7)(disch:=first|exact Yo rfl|omega|(simp only[go_sem]<;>omega)|fail)only[go_sem]) ?_
 try delta mvA
 try delta opA
 try delta tA
 simp -implicitDefEqProofs(maxSteps:=9^7)(disch:=first|exact Yo rfl|omega|(simp only[go_sem]<;>omega)|fail)only[go_sem]
 repeat(first|apply Ya|apply Yb|apply Yc|((first|apply Yd|apply Ye|apply Yf|apply Yg|apply Yh);simp -implicitDefEqProofs(maxSteps:=9^7)(disch:=first|exact Yo rfl|omega|(simp only[go_sem]<;>omega)|fail)only[go_sem, hln]<;>try with_reducible rfl)|apply Yi|apply Yj|apply Yk|apply Yl|apply Ym|apply Yn)
 apply Yt n (fun i => ⟨[(2, .slice 128 0 i), (5, .list 1 L), (6, iv (n : Int)), (7, iv (i : Int))], [(128, .arr 2 (thV l i))], [], 10000000⟩) (fun _ => True)
 ·simp -implicitDefEqProofs(maxSteps:=9^7)(disch:=first|exact Yo rfl|omega|(simp only[go_sem]<;>omega)|fail)only[go_sem, norm_eq, Ok.some]
  rfl
 ·trivial
 intro i hi _;have n1 := htl i;have t1 : (thV l i).take i = thV l i := List.take_of_length_le (by omega)
 have p1 := hpl i;by_cases h' : i < n
 ·have a1 := hg i h'
  have a2 := hne i h';rw [hst i];clear hg hne hst hpl htl;generalize drAt l i = v at *;generalize thV l i = T at *;repeat(first|apply Ya|apply Yb|apply Yc|((first|apply Yd|apply Ye|apply Yf|apply Yg|apply Yh);simp -implicitDefEqProofs(maxSteps:=9^7)(disch:=first|exact Yo rfl|omega|(simp only[go_sem]<;>omega)|fail)only[go_sem, h', Int.ofNat_lt, a1, a2, n1, t1, hln, Int.toNat_natCast]<;>try with_reducible rfl)|apply Yi|apply Yj|apply Yk|apply Yl|apply Ym|apply Yn)
  apply Ys
  ·simp -implicitDefEqProofs(maxSteps:=9^7)(disch:=first|exact Yo rfl|omega|(simp only[go_sem]<;>omega)|fail)only[go_sem, norm_eq, Ok.some]; with_reducible rfl
  exact ⟨h', by simp, trivial⟩
 ·obtain rfl : i = n := by omega
  clear hg hne hst hpl htl;generalize thV l i = T at *;repeat(first|apply Ya|apply Yb|apply Yc|((first|apply Yd|apply Ye|apply Yf|apply Yg|apply Yh);simp -implicitDefEqProofs(maxSteps:=9^7)(disch:=first|exact Yo rfl|omega|(simp only[go_sem]<;>omega)|fail)only[go_sem, h', Int.ofNat_lt, n1, t1, p1]<;>try with_reducible rfl)|apply Yi|apply Yj|apply Yk|apply Yl|apply Ym|apply Yn)
theorem cross_ok (a b c d : Int) : lim F 14 [.agg [iv a, iv b], .agg [iv c, iv d]] = some (.bool (decide (d ≤ b)), []) := by
 refine Yr (fn:=a14) (k:=2) (res:=[.tmp 4]) rfl rfl rfl (by simp -implicitDefEqProofs(maxSteps:=9^7)(disch:=first|exact Yo rfl|omega|(simp only[go_sem]<;>omega)|fail)only[go_sem]) ?_
 try delta mvA
 try delta opA
 try delta tA
 simp -implicitDefEqProofs(maxSteps:=9^7)(disch:=first|exact Yo rfl|omega|(simp only[go_sem]<;>omega)|fail)only[go_sem]
 repeat(first|apply Ya|apply Yb|apply Yc|((first|apply Yd|apply Ye|apply Yf|apply Yg|apply Yh);simp -implicitDefEqProofs(maxSteps:=9^7)(disch:=first|exact Yo rfl|omega|(simp only[go_sem]<;>omega)|fail)only[go_sem]<;>try with_reducible rfl)|apply Yi|apply Yj|apply Yk|apply Yl|apply Ym|apply Yn)
theorem apart_ok (a b c d : Int) : lim F 13 [.agg [iv a, iv b], .agg [iv c, iv d]] = some (.bool (decide (b < d)), []) := by
 have h := cross_ok a b c d;by_cases c : d ≤ b
 ·refine Yr (fn:=a13) (k:=2) (res:=[.tmp 4]) rfl rfl rfl (by simp -implicitDefEqProofs(maxSteps:=9^7)(disch:=first|exact Yo rfl|omega|(simp only[go_sem]<;>omega)|fail)only[go_sem]) ?_
  try delta mvA
  try delta opA
  try delta tA
  simp -implicitDefEqProofs(maxSteps:=9^7)(disch:=first|exact Yo rfl|omega|(simp only[go_sem]<;>omega)|fail)only[go_sem]
  repeat(first|apply Ya|apply Yb|apply Yc|((first|apply Yd|apply Ye|apply Yf|apply Yg|apply Yh);simp -implicitDefEqProofs(maxSteps:=9^7)(disch:=first|exact Yo rfl|omega|(simp only[go_sem]<;>omega)|fail)only[go_sem, h, c]<;>try with_reducible rfl)|apply Yi|apply Yj|apply Yk|apply Yl|apply Ym|apply Yn)
  simp;omega
 ·refine Yr (fn:=a13) (k:=2) (res:=[.tmp 4]) rfl rfl rfl (by simp -implicitDefEqProofs(maxSteps:=9^7)(disch:=first|exact Yo rfl|omega|(simp only[go_sem]<;>omega)|fail)only[go_sem]) ?_
  try delta mvA
  try delta opA
  try delta tA
  simp -implicitDefEqProofs(maxSteps:=9^7)(disch:=first|exact Yo rfl|omega|(simp only[go_sem]<;>omega)|fail)only[go_sem]
  repeat(first|apply Ya|apply Yb|apply Yc|((first|apply Yd|apply Ye|apply Yf|apply Yg|apply Yh);simp -implicitDefEqProofs(maxSteps:=9^7)(disch:=first|exact Yo rfl|omega|(simp only[go_sem]<;>omega)|fail)only[go_sem, h, c]<;>try with_reducible rfl)|apply Yi|apply Yj|apply Yk|apply Yl|apply Ym|apply Yn)
  simp;omega
end Go.Abs
set_option linter.all false
namespace Go.Abs
set_option maxRecDepth 10000
set_option maxHeartbeats 4000000
theorem BackT_fun (L : List AV) : lim F 24 [.list 2 L] = some (.func 38 [.iptr (.agg [.list 2 L]) 0], []) := by
 refine Yr (fn:=a24) (k:=1) (res:=[.tmp 2]) rfl rfl rfl (by simp -implicitDefEqProofs(maxSteps:=9^7)(disch:=first|exact Yo rfl|omega|(simp only[go_sem]<;>omega)|fail)only[go_sem]) ?_
 try delta mvA
 try delta opA
 try delta tA
 simp -implicitDefEqProofs(maxSteps:=9^7)(disch:=first|exact Yo rfl|omega|(simp only[go_sem]<;>omega)|fail)only[go_sem]
 repeat(first|apply Ya|apply Yb|apply Yc|((first|apply Yd|apply Ye|apply Yf|apply Yg|apply Yh);simp -implicitDefEqProofs(maxSteps:=9^7)(disch:=first|exact Yo rfl|omega|(simp only[go_sem]<;>omega)|fail)only[go_sem]<;>try with_reducible rfl)|apply Yi|apply Yj|apply Yk|apply Yl|apply Ym|apply Yn)
def btE (l : List Int) (j : Nat) : List AV := [iv ((l.length - 1 - j : Nat) : Int), thE l (l.length - 1 - j)]
def btL (l : List Int) (k : Nat) : List (List AV) := (List.range k).map (btE l)
def btR (l : List Int) (i k : Nat) : List (List AV) := (List.range k).map fun j => btE l (i + j)
theorem bt_succ (l : List Int) (k : Nat) : btL l (k + 1) = btL l k ++ [btE l k] := by
 unfold btL; rw [List.range_succ, List.map_append]; rfl
theorem btR_succ (l : List Int) (i k : Nat) : btR l i (k + 1) = btE l i :: btR l (i + 1) k := by
 unfold btR;rw [List.range_succ_eq_map, List.map_cons, List.map_map]
 congr 1
 apply List.map_congr_left;intro j _;simp only [Function.comp]
 congr 1
 omega
theorem bt_guess (l : List Int) (h : l.length ≤ 1000) : lim F 38 [.ylog none [], .iptr (.agg [.list 2 (thV l l.length)]) 0] = some (.tuple [], [.ylog none (btL l l.length)]) := by
 have hln := th_len l l.length;have hg := fun i (hi : i < l.length) => th_get (l := l) hi
 have hst := bt_succ l;unfold btE thE at hst;generalize hn : l.length = n at *;generalize thV l n = L at *;refine Yr (fn:=a38) (k:=2) (res:=[]) rfl rfl rfl (by simp -implicitDefEqProofs(maxSteps:=9^7)(disch:=first|exact Yo rfl|omega|(simp only[go_sem]<;>omega)|fail)only[go_sem]) ?_
 try delta mvA
 try delta opA
 try delta tA
 simp -implicitDefEqProofs(maxSteps:=9^7)(disch:=first|exact Yo rfl|omega|(simp only[go_sem]<;>omega)|fail)only[go_sem]
 repeat(first|apply Ya|apply Yb|apply Yc|((first|apply Yd|apply Ye|apply Yf|apply Yg|apply Yh);simp -implicitDefEqProofs(maxSteps:=9^7)(disch:=first|exact Yo rfl|omega|(simp only[go_sem]<;>omega)|fail)only[go_sem, hln]<;>try with_reducible rfl)|apply Yi|apply Yj|apply Yk|apply Yl|apply Ym|apply Yn)
 apply Yt n (fun i => ⟨[(0, .yieldT 200000), (1, .iptr (.agg [.list 2 L]) 0), (3, iv ((n : Int) - 1 - i))], [(200000, .num 3500000), (3500000, .log none (btL l i))], [(200000, none)], 10000000⟩) (fun _ => True)
 ·simp -implicitDefEqProofs(maxSteps:=9^7)(disch:=first|exact Yo rfl|omega|(simp only[go_sem]<;>omega)|fail)only[go_sem, norm_eq, Ok.some]
  simp [btL]
 ·trivial
 intro i hi _;by_cases h' : i < n
 ·have a1 := hg (n - 1 - i) (by omega)
  have a2 := hst i;have e1 : ((n : Int) - 1 - i).toNat = n - 1 - i := by omega
  have e2 : ((n - 1 - i : Nat) : Int) = (n : Int) - 1 - i := by omega
  rw [e2] at a1;rw [a2, e2];clear hg hst a2;generalize btL l i = B at *;generalize drAt l (n - 1 - i) = v at *;repeat(first|apply Ya|apply Yb|apply Yc|((first|apply Yd|apply Ye|apply Yf|apply Yg|apply Yh);simp -implicitDefEqProofs(maxSteps:=9^7)(disch:=first|exact Yo rfl|omega|(simp only[go_sem]<;>omega)|fail)only[go_sem, show (n : Int) - 1 - i ≥ 0 by omega, show (0 : Int) ≤ (n : Int) - 1 - i by omega, show (n : Int) - 1 - i < n by omega, a1, e1, hln]<;>try with_reducible rfl)|apply Yi|apply Yj|apply Yk|apply Yl|apply Ym|apply Yn)
  apply Ys
  ·simp -implicitDefEqProofs(maxSteps:=9^7)(disch:=first|exact Yo rfl|omega|(simp only[go_sem]<;>omega)|fail)only[go_sem, norm_eq, Ok.some]; with_reducible rfl
  refine ⟨h', ?_, trivial⟩;simp;omega
 ·obtain rfl : i = n := by omega
  clear hg hst;generalize btL l i = B at *;repeat(first|apply Ya|apply Yb|apply Yc|((first|apply Yd|apply Ye|apply Yf|apply Yg|apply Yh);simp -implicitDefEqProofs(maxSteps:=9^7)(disch:=first|exact Yo rfl|omega|(simp only[go_sem]<;>omega)|fail)only[go_sem, show ¬ (i : Int) - 1 - i ≥ 0 by omega, show ¬ (0 : Int) ≤ (i : Int) - 1 - i by omega]<;>try with_reducible rfl)|apply Yi|apply Yj|apply Yk|apply Yl|apply Ym|apply Yn)
theorem bt_check (l : List Int) (h : l.length ≤ 1000) : lim F 38 [.ylog (some 0) (btL l l.length), .iptr (.agg [.list 2 (thV l l.length)]) 0] = some (.tuple [], [.ylog (some 0) []]) := by
 have hln := th_len l l.length;have hg := fun i (hi : i < l.length) => th_get (l := l) hi
 have hst : ∀ i, i < l.length → btR l i (l.length - i) = btE l i :: btR l (i + 1) (l.length - (i + 1)) := fun i hi => by
  rw [show l.length - i = l.length - (i + 1) + 1 by omega, btR_succ]
 have hz : btL l l.length = btR l 0 (l.length - 0) := by simp [btL, btR]
 rw [hz];unfold btE thE at hst;generalize hn : l.length = n at *;generalize thV l n = L at *;refine Yr (fn:=a38) (k:=2) (res:=[]) rfl rfl rfl (by simp -implicitDefEqProofs(maxSteps:=9^7)(disch:=first|exact Yo rfl|omega|(simp only[go_sem]<;>omega)|fail)only[go_sem]) ?_
 try delta mvA
 try delta opA
 try delta tA
 simp -implicitDefEqProofs(maxSteps:=9^7)(disch:=first|exact Yo rfl|omega|(simp only[go_sem]<;>omega)|fail)only[go_sem]
 repeat(first|apply Ya|apply Yb|apply Yc|((first|apply Yd|apply Ye|apply Yf|apply Yg|apply Yh);simp -implicitDefEqProofs(maxSteps:=9^7)(disch:=first|exact Yo rfl|omega|(simp only[go_sem]<;>omega)|fail)only[go_sem, hln]<;>try with_reducible rfl)|apply Yi|apply Yj|apply Yk|apply Yl|apply Ym|apply Yn)
 apply Yt n (fun i => ⟨[(0, .yieldT 200000), (1, .iptr (.agg [.list 2 L]) 0), (3, iv ((n : Int) - 1 - i))], [(200000, .num 3500000), (3500000, .log (some 0) (btR l i (n - i)))], [(200000, none)], 10000000⟩) (fun _ => True)
 ·simp -implicitDefEqProofs(maxSteps:=9^7)(disch:=first|exact Yo rfl|omega|(simp only[go_sem]<;>omega)|fail)only[go_sem, norm_eq, Ok.some]
  simp
 ·trivial
 intro i hi _;by_cases h' : i < n
 ·have a1 := hg (n - 1 - i) (by omega)
  have a2 := hst i h';have e1 : ((n : Int) - 1 - i).toNat = n - 1 - i := by omega
  have e2 : ((n - 1 - i : Nat) : Int) = (n : Int) - 1 - i := by omega
  rw [e2] at a1;rw [a2, e2];clear hg hst a2;generalize btR l (i + 1) (n - (i + 1)) = B at *;generalize drAt l (n - 1 - i) = v at *;have hq : AV.beqL [iv ((n : Int) - 1 - i), .agg [iv ((n : Int) - 1 - i), iv v]] [iv ((n : Int) - 1 - i), .agg [iv ((n : Int) - 1 - i), iv v]] = true := by simp [AV.beqL, AV.beq]
  repeat(first|apply Ya|apply Yb|apply Yc|((first|apply Yd|apply Ye|apply Yf|apply Yg|apply Yh);simp -implicitDefEqProofs(maxSteps:=9^7)(disch:=first|exact Yo rfl|omega|(simp only[go_sem]<;>omega)|fail)only[go_sem, show (n : Int) - 1 - i ≥ 0 by omega, show (0 : Int) ≤ (n : Int) - 1 - i by omega, show (n : Int) - 1 - i < n by omega, a1, e1, hln, hq]<;>try with_reducible rfl)|apply Yi|apply Yj|apply Yk|apply Yl|apply Ym|apply Yn)
  apply Ys
  ·simp -implicitDefEqProofs(maxSteps:=9^7)(disch:=first|exact Yo rfl|omega|(simp only[go_sem]<;>omega)|fail)only[go_sem, norm_eq, Ok.some]; with_reducible rfl
  refine ⟨h', ?_, trivial⟩;simp;omega
 ·obtain rfl : i = n := by omega
  have ez : btR l i (i - i) = [] := by simp [btR]
  rw [ez];repeat(first|apply Ya|apply Yb|apply Yc|((first|apply Yd|apply Ye|apply Yf|apply Yg|apply Yh);simp -implicitDefEqProofs(maxSteps:=9^7)(disch:=first|exact Yo rfl|omega|(simp only[go_sem]<;>omega)|fail)only[go_sem, show ¬ (i : Int) - 1 - i ≥ 0 by omega, show ¬ (0 : Int) ≤ (i : Int) - 1 - i by omega]<;>try with_reducible rfl)|apply Yi|apply Yj|apply Yk|apply Yl|apply Ym|apply Yn)
structure LenOk (n i : Nat) (L : List Nat) : Prop where
 len : L.length = n
 rng : ∀ k, k < n → i ≤ k → 1 ≤ L.getD k 0 ∧ L.getD k 0 + k ≤ n
theorem getD_set {L : List Nat} {i k v : Nat} (h : i < L.length) : (L.set i v).getD k 0 = if k = i then v else L.getD k 0 := by
 rw [List.getD_eq_getElem?_getD, List.getElem?_set, List.getD_eq_getElem?_getD];by_cases c : i = k
 ·subst c; rw [if_pos rfl, if_pos h, if_pos rfl]; rfl
 ·rw [if_neg c, if_neg (fun e => c e.symm)]
theorem LenOk.put {n i v : Nat} {L : List Nat} (h : LenOk n (i + 1) L) (hi : i < n) (h1 : 1 ≤ v) (h2 : v + i ≤ n) : LenOk n i (L.set i v) where
 len := by rw [List.length_set]; exact h.len
 rng := fun k hk hik => by
  rw [getD_set (by rw [h.len]; exact hi)]
  by_cases c : k = i
  ·rw [if_pos c]; omega
  ·rw [if_neg c]; exact h.rng k hk (by omega)
theorem LenOk.up {n i : Nat} {L : List Nat} (h : LenOk n i L) : LenOk n (i + 1) L where
 len := h.len
 rng := fun k hk hik => h.rng k hk (by omega)
theorem longest_ok (l : List Int) (h1 : l.length ≤ 90) : ∃ q, lim F 15 [.list 2 (thV l l.length), .func 13 []] = some q ∧ ∃ L, q = (.own 1 (natsV L), []) ∧ LenOk l.length 0 L := by
 have hB := BackT_fun (thV l l.length);have hg := bt_guess l (by omega)
 have hk := bt_check l (by omega)
 have hln := th_len l l.length;have hth := fun i (hi : i < l.length) => th_get (l := l) hi
 have hbl : (btL l l.length).length = l.length := by simp [btL]
 have hbx : ∀ j x, (btL l l.length)[j]? = some x → j < l.length ∧ x = [iv ((l.length - 1 - j : Nat) : Int), .agg [iv ((l.length - 1 - j : Nat) : Int), iv (drAt l (l.length - 1 - j))]] := fun j x hx => by
  rcases Nat.lt_or_ge j l.length with h | h
  ·unfold btL at hx
   rw [List.getElem?_map, List.getElem?_range h] at hx;simp only [Option.map_some, Option.some.injEq] at hx;exact ⟨h, hx.symm⟩
  ·rw [List.getElem?_eq_none (by omega)] at hx; cases hx
 generalize thV l l.length = es at *;generalize btL l l.length = V at *;generalize l.length = n at *;have hr : List.replicate n (iv 0) = natsV (List.replicate n 0) := by unfold natsV; rw [List.map_replicate]; rfl
 refine lim_ex (fn := a15) (k := 2) (res := [.tmp 4]) rfl rfl rfl (by simp -implicitDefEqProofs(maxSteps:=9^7)(disch:=first|exact Yo rfl|omega|(simp only[go_sem]<;>omega)|fail)only[go_sem]) ?_
 try delta mvA
 try delta opA
 try delta tA
 simp -implicitDefEqProofs(maxSteps:=9^7)(disch:=first|exact Yo rfl|omega|(simp only[go_sem]<;>omega)|fail)only[go_sem]
 repeat(first|apply Ya|apply Yb|apply Yc|((first|apply Yd|apply Ye|apply Yf|apply Yg|apply Yh);simp -implicitDefEqProofs(maxSteps:=9^7)(disch:=first|exact Yo rfl|omega|(simp only[go_sem]<;>omega)|fail)only[go_sem, hln, hB, hr, Int.toNat_natCast]<;>try with_reducible rfl)|apply Yi|apply Yj|apply Yk|apply Yl|apply Ym|apply Yn)
 refine Wp.rangeF (fun j fr => ∃ L, fr = ⟨[(2, .ptr 128 0 0), (3, .ptr 192 0 0), (5, .ptr 320 0 0)], [(128, .box [.list 2 es]), (192, .box [.func 13 []]), (320, .box [.slice 305120 0 n]), (305120, .arr 1 (natsV L))], [], 10000000⟩ ∧ LenOk n (n - j) L) rfl rfl hg hk ?_ ?_ ?_
 ·simp -implicitDefEqProofs(maxSteps:=9^7)(disch:=first|exact Yo rfl|omega|(simp only[go_sem]<;>omega)|fail)only[go_sem, norm_eq, Ok.some]
  exact ⟨_, rfl, by simp, fun k hk hk2 => by omega⟩
 ·rintro j x fr hx ⟨L, rfl, hL⟩
  obtain ⟨hj, rfl⟩ := hbx j x hx;refine ⟨_, rfl, ?_⟩;obtain ⟨i, hi⟩ : ∃ i, i = n - 1 - j := ⟨_, rfl⟩;rw [← hi];have hin : i < n := by omega
  rw [show n - j = i + 1 by omega] at hL
  rw [show n - (j + 1) = i by omega]
  have hL1 := hL.put (v := 1) hin (by omega) (by omega)
  have g0 : (natsV L)[i]? = some (iv ((L.getD i 0 : Nat) : Int)) := nats_at (by rw [hL.len]; exact hin)
  have s0 : (natsV L).set i (iv 1) = natsV (L.set i 1) := by unfold natsV; rw [List.map_set]; rfl
  have n0 : (natsV L).length = n := by simp [hL.len]
  have hA := fun k : Nat => apart_ok (i : Int) (drAt l i) (k : Int) (drAt l k)
  clear hB hg hk hbl hbx hr hx;repeat(first|apply Ya|apply Yb|apply Yc|((first|apply Yd|apply Ye|apply Yf|apply Yg|apply Yh);simp -implicitDefEqProofs(maxSteps:=9^7)(disch:=first|exact Yo rfl|omega|(simp only[go_sem]<;>omega)|fail)only[go_sem, hin, Int.ofNat_lt, g0, s0, n0, Int.toNat_natCast]<;>try with_reducible rfl)|apply Yi|apply Yj|apply Yk|apply Yl|apply Ym|apply Yn)
  apply Yu (n - (i + 1)) (fun m fr => ∃ L, fr = ⟨[(2, .ptr 128 0 0), (3, .ptr 192 0 0), (5, .ptr 320 0 0), (6, iv (i : Int)), (7, .ptr 448 0 0), (8, iv ((i + 1 + m : Nat) : Int))], [(128, .box [.list 2 es]), (192, .box [.func 13 []]), (320, .box [.slice 305120 0 n]), (448, .box [iv (i : Int), iv (drAt l i)]), (305120, .arr 1 (natsV L))], [], 10000000⟩ ∧ LenOk n i L)
  ·simp -implicitDefEqProofs(maxSteps:=9^7)(disch:=first|exact Yo rfl|omega|(simp only[go_sem]<;>omega)|fail)only[go_sem, norm_eq, Ok.some]
   exact ⟨_, by simp, hL1⟩
  clear hL1 g0 s0 n0 hL;rintro m fr hm ⟨L, rfl, hL⟩;obtain ⟨k, hk⟩ : ∃ k, k = i + 1 + m := ⟨_, rfl⟩;rw [show i + 1 + (m + 1) = k + 1 by omega, ← hk]
  have n0 : (natsV L).length = n := by simp [hL.len]
  by_cases h' : k < n
  ·have g1 := hth k h'
   have g2 : (natsV L)[k]? = some (iv ((L.getD k 0 : Nat) : Int)) := nats_at (by rw [hL.len]; exact h')
   have g3 : (natsV L)[i]? = some (iv ((L.getD i 0 : Nat) : Int)) := nats_at (by rw [hL.len]; exact hin)
   have r2 := hL.rng k h' (by omega)
   have r3 := hL.rng i hin (by omega)
   have a1 := hA k;by_cases c : drAt l i < drAt l k
   ·have hL2 := hL.up.put (v := max (L.getD i 0) (L.getD k 0 + 1)) hin (by omega) (by omega)
    have s2 : (natsV L).set i (iv ((max (L.getD i 0) (L.getD k 0 + 1) : Nat) : Int)) = natsV (L.set i (max (L.getD i 0) (L.getD k 0 + 1))) := by unfold natsV; rw [List.map_set]
    have mx : max ((L.getD i 0 : Nat) : Int) (((L.getD k 0 : Nat) : Int) + 1) = ((max (L.getD i 0) (L.getD k 0 + 1) : Nat) : Int) := by omega
    generalize L.getD i 0 = x at *;generalize L.getD k 0 = y at *;repeat(first|apply Ya|apply Yb|apply Yc|((first|apply Yd|apply Ye|apply Yf|apply Yg|apply Yh);simp -implicitDefEqProofs(maxSteps:=9^7)(disch:=first|exact Yo rfl|omega|(simp only[go_sem]<;>omega)|fail)only[go_sem, hin, h', Int.ofNat_lt, hln, g1, g2, g3, a1, c, n0, mx, s2, Int.toNat_natCast]<;>try with_reducible rfl)|apply Yi|apply Yj|apply Yk|apply Yl|apply Ym|apply Yn)
    apply Ys
    ·simp -implicitDefEqProofs(maxSteps:=9^7)(disch:=first|exact Yo rfl|omega|(simp only[go_sem]<;>omega)|fail)only[go_sem, norm_eq, Ok.some]; with_reducible rfl
    exact ⟨by omega, _, by simp, hL2⟩
   ·repeat(first|apply Ya|apply Yb|apply Yc|((first|apply Yd|apply Ye|apply Yf|apply Yg|apply Yh);simp -implicitDefEqProofs(maxSteps:=9^7)(disch:=first|exact Yo rfl|omega|(simp only[go_sem]<;>omega)|fail)only[go_sem, hin, h', Int.ofNat_lt, hln, g1, a1, c, Int.toNat_natCast]<;>try with_reducible rfl)|apply Yi|apply Yj|apply Yk|apply Yl|apply Ym|apply Yn)
    apply Ys
    ·simp -implicitDefEqProofs(maxSteps:=9^7)(disch:=first|exact Yo rfl|omega|(simp only[go_sem]<;>omega)|fail)only[go_sem, norm_eq, Ok.some]; with_reducible rfl
    exact ⟨by omega, L, by simp, hL⟩
  ·repeat(first|apply Ya|apply Yb|apply Yc|((first|apply Yd|apply Ye|apply Yf|apply Yg|apply Yh);simp -implicitDefEqProofs(maxSteps:=9^7)(disch:=first|exact Yo rfl|omega|(simp only[go_sem]<;>omega)|fail)only[go_sem, h', Int.ofNat_lt, hln]<;>try with_reducible rfl)|apply Yi|apply Yj|apply Yk|apply Yl|apply Ym|apply Yn)
   change roundQ [2, 3, 5] _ (fun _ _ => False) .normal _
   apply Ys
   ·simp -implicitDefEqProofs(maxSteps:=9^7)(disch:=first|exact Yo rfl|omega|(simp only[go_sem]<;>omega)|fail)only[go_sem, norm_eq, Ok.some]; with_reducible rfl
   exact ⟨L, by simp, hL⟩
 ·rintro fr ⟨L, rfl, hL⟩
  rw [hbl, Nat.sub_self] at hL;have n0 : (natsV L).length = n := by simp [hL.len]
  have t0 : (natsV L).take n = natsV L := List.take_of_length_le (by omega)
  have p0 := nat_plain L;apply block_norm;repeat(first|apply Ya|apply Yb|apply Yc|((first|apply Yd|apply Ye|apply Yf|apply Yg|apply Yh);simp -implicitDefEqProofs(maxSteps:=9^7)(disch:=first|exact Yo rfl|omega|(simp only[go_sem]<;>omega)|fail)only[go_sem]<;>try with_reducible rfl)|apply Yi|apply Yj|apply Yk|apply Yl|apply Ym|apply Yn)
  refine finp_ret (r := (.own 1 (natsV L), [])) ?_ ⟨L, rfl, hL⟩;generalize natsV L = RV at *;simp -implicitDefEqProofs(maxSteps:=9^7)(disch:=first|exact Yo rfl|omega|(simp only[go_sem]<;>omega)|fail)only[go_sem, n0, t0, p0]
end Go.Abs
set_option linter.all false
namespace Go.Abs
set_option maxRecDepth 10000
set_option maxHeartbeats 4000000
theorem Max_ok (L : List Nat) (B : Nat) (h0 : 0 < L.length) (hl : L.length ≤ 1000) (hB : B ≤ 1000) (hb : ∀ i, i < L.length → L.getD i 0 ≤ B) : ∃ q, lim F 25 [.list 1 (natsV L)] = some q ∧ ∃ m : Nat, q = (iv (m : Int), []) ∧ m ≤ B ∧ ∀ i, i < L.length → L.getD i 0 ≤ m := by
 have hg := fun i (hi : i < L.length) => nats_at (l := L) hi
 have hln : (natsV L).length = L.length := by simp
 generalize natsV L = es at *;have g0 := hg 0 h0;refine lim_ex (fn := a25) (k := 1) (res := [.tmp 2]) rfl rfl rfl (by simp -implicitDefEqProofs(maxSteps:=9^7)(disch:=first|exact Yo rfl|omega|(simp only[go_sem]<;>omega)|fail)only[go_sem]) ?_
 try delta mvA
 try delta opA
 try delta tA
 simp -implicitDefEqProofs(maxSteps:=9^7)(disch:=first|exact Yo rfl|omega|(simp only[go_sem]<;>omega)|fail)only[go_sem]
 repeat(first|apply Ya|apply Yb|apply Yc|((first|apply Yd|apply Ye|apply Yf|apply Yg|apply Yh);simp -implicitDefEqProofs(maxSteps:=9^7)(disch:=first|exact Yo rfl|omega|(simp only[go_sem]<;>omega)|fail)only[go_sem, hln, g0, h0, Int.ofNat_lt, show (0 : Int) < (L.length : Int) by omega, show ¬ (L.length : Int) < 1 by omega]<;>try with_reducible rfl)|apply Yi|apply Yj|apply Yk|apply Yl|apply Ym|apply Yn)
 apply Yu (L.length - 1) (fun k fr => ∃ m : Nat, fr = ⟨[(0, .list 1 es), (3, iv (m : Int)), (4, iv ((k + 1 : Nat) : Int))], [], [], 10000000⟩ ∧ m ≤ B ∧ ∀ i, i < k + 1 → L.getD i 0 ≤ m)
 ·simp -implicitDefEqProofs(maxSteps:=9^7)(disch:=first|exact Yo rfl|omega|(simp only[go_sem]<;>omega)|fail)only[go_sem, norm_eq, Ok.some]
  exact ⟨L.getD 0 0, by simp, hb 0 h0, fun i hi => by rw [show i = 0 by omega]; exact Nat.le_refl _⟩
 rintro k fr hk ⟨m, rfl, hm, hi⟩;by_cases h' : k + 1 < L.length
 ·have g1 := hg (k + 1) h'
  have b1 := hb (k + 1) h';have mx : max (m : Int) ((L.getD (k + 1) 0 : Nat) : Int) = ((max m (L.getD (k + 1) 0) : Nat) : Int) := by omega
  have inv : ∀ i, i < k + 1 + 1 → L.getD i 0 ≤ max m (L.getD (k + 1) 0) := fun i hi2 => by
   by_cases e : i = k + 1
   ·subst e; omega
   ·have := hi i (by omega); omega
  generalize L.getD (k + 1) 0 = x at *;repeat(first|apply Ya|apply Yb|apply Yc|((first|apply Yd|apply Ye|apply Yf|apply Yg|apply Yh);simp -implicitDefEqProofs(maxSteps:=9^7)(disch:=first|exact Yo rfl|omega|(simp only[go_sem]<;>omega)|fail)only[go_sem, h', Int.ofNat_lt, hln, g1, mx, Int.toNat_natCast]<;>try with_reducible rfl)|apply Yi|apply Yj|apply Yk|apply Yl|apply Ym|apply Yn)
  apply Ys
  ·simp -implicitDefEqProofs(maxSteps:=9^7)(disch:=first|exact Yo rfl|omega|(simp only[go_sem]<;>omega)|fail)only[go_sem, norm_eq, Ok.some]; with_reducible rfl
  exact ⟨by omega, max m x, by simp, by omega, inv⟩
 ·repeat(first|apply Ya|apply Yb|apply Yc|((first|apply Yd|apply Ye|apply Yf|apply Yg|apply Yh);simp -implicitDefEqProofs(maxSteps:=9^7)(disch:=first|exact Yo rfl|omega|(simp only[go_sem]<;>omega)|fail)only[go_sem, h', Int.ofNat_lt, hln]<;>try with_reducible rfl)|apply Yi|apply Yj|apply Yk|apply Yl|apply Ym|apply Yn)
  refine finp_ret (r := (iv (m : Int), [])) ?_ ⟨m, rfl, hm, fun i hi2 => hi i (by omega)⟩
  simp -implicitDefEqProofs(maxSteps:=9^7)(disch:=first|exact Yo rfl|omega|(simp only[go_sem]<;>omega)|fail)only[go_sem]
theorem most_ok (L : List Nat) (n : Nat) (hL : LenOk n 0 L) (hn : n ≤ 90) (h0 : 0 < n) : ∃ q, lim F 16 [.list 1 (natsV L)] = some q ∧ ∃ m : Nat, q = (iv (m : Int), []) ∧ m ≤ n ∧ 1 ≤ m := by
 have hl := hL.len;obtain ⟨q, h1, m, rfl, h2, h3⟩ := Max_ok (0 :: L) n (by simp) (by simp; omega) (by omega) fun i hi => by
  cases i with
  | zero => simp
  | succ i =>
   have := hL.rng i (by simpa [hl] using hi) (by omega)
   simp only [List.getD_cons_succ];omega
 have h4 := hL.rng 0 h0 (Nat.le_refl _);have h5 := h3 1 (by simp; omega)
 simp only [List.getD_cons_succ] at h5;refine ⟨_, ?_, m, rfl, h2, by omega⟩
 have e : natsV (0 :: L) = iv 0 :: natsV L := rfl;rw [e] at h1;have n0 : (natsV L).length = n := by simp [hl]
 generalize natsV L = es at *;have t1 : (iv 0 :: es).take (1 + n) = iv 0 :: es := List.take_of_length_le (by simp [n0]; omega)
 refine Yr (fn:=a16) (k:=1) (res:=[.tmp 2]) rfl rfl rfl (by simp -implicitDefEqProofs(maxSteps:=9^7)(disch:=first|exact Yo rfl|omega|(simp only[go_sem]<;>omega)|fail)only[go_sem]) ?_
 try delta mvA
 try delta opA
 try delta tA
 simp -implicitDefEqProofs(maxSteps:=9^7)(disch:=first|exact Yo rfl|omega|(simp only[go_sem]<;>omega)|fail)only[go_sem]
 repeat(first|apply Ya|apply Yb|apply Yc|((first|apply Yd|apply Ye|apply Yf|apply Yg|apply Yh);simp -implicitDefEqProofs(maxSteps:=9^7)(disch:=first|exact Yo rfl|omega|(simp only[go_sem]<;>omega)|fail)only[go_sem, n0, t1, h1]<;>try with_reducible rfl)|apply Yi|apply Yj|apply Yk|apply Yl|apply Ym|apply Yn)
theorem eCheckD_ok (l : List Int) (h0 : ∀ e ∈ l, 0 ≤ e ∧ e ≤ 95) (hl : l.length ≤ 90) : lim F 11 [.list 1 (intsV l)] = some (iv 0, []) := by
 have hw := ewithin_ok (-1) 95 l (by omega)
 have ha : (l.all fun n => decide (-1 ≤ n ∧ n ≤ 95)) = true := by
  rw [List.all_eq_true];intro e he;have := h0 e he;exact decide_eq_true ⟨by omega, by omega⟩
 rw [ha] at hw;have hln : (intsV l).length = l.length := by simp [intsV]
 change lim F _ [_, _, .list 1 (intsV l)] = _ at hw;generalize intsV l = L at *;refine Yr (fn:=a11) (k:=1) (res:=[.tmp 2]) rfl rfl rfl (by simp -implicitDefEqProofs(maxSteps:=9^7)(disch:=first|exact Yo rfl|omega|(simp only[go_sem]<;>omega)|fail)only[go_sem]) ?_
 try delta mvA
 try delta opA
 try delta tA
 simp -implicitDefEqProofs(maxSteps:=9^7)(disch:=first|exact Yo rfl|omega|(simp only[go_sem]<;>omega)|fail)only[go_sem]
 repeat(first|apply Ya|apply Yb|apply Yc|((first|apply Yd|apply Ye|apply Yf|apply Yg|apply Yh);simp -implicitDefEqProofs(maxSteps:=9^7)(disch:=first|exact Yo rfl|omega|(simp only[go_sem]<;>omega)|fail)only[go_sem, hw, hln, show ¬ 96 < (l.length : Int) by omega]<;>try with_reducible rfl)|apply Yi|apply Yj|apply Yk|apply Yl|apply Ym|apply Yn)
structure OutTo (l : List Int) (i : Nat) (os ks : List Nat) : Prop where
 sum : os.length + ks.length = i
 asc : ks.Pairwise (· < ·)
 lt : ∀ k ∈ ks, k < i
 num : ks.Pairwise fun a b => drAt l a < drAt l b
def lastA (ks : List Nat) : Int := match ks.getLast? with
 | none => -1
 | some k => (k : Int)
def lastB (l : List Int) (ks : List Nat) : Int := match ks.getLast? with
 | none => -1
 | some k => drAt l k
theorem lastA_snoc (ks : List Nat) (i : Nat) : lastA (ks ++ [i]) = (i : Int) := by
 unfold lastA;rw [List.getLast?_append, List.getLast?_singleton]; rfl
theorem lastB_snoc (l : List Int) (ks : List Nat) (i : Nat) : lastB l (ks ++ [i]) = drAt l i := by
 unfold lastB;rw [List.getLast?_append, List.getLast?_singleton]; rfl
theorem last_le {l : List Int} : ∀ {ks : List Nat}, ks.Pairwise (fun a b => drAt l a < drAt l b) → ∀ k ∈ ks, drAt l k ≤ lastB l ks := by
 intro ks h k hk;rcases List.eq_nil_or_concat ks with rfl | ⟨r, x, rfl⟩
 ·cases hk
 ·rw [List.concat_eq_append] at *
  unfold lastB;rw [List.getLast?_append, List.getLast?_singleton];simp only [Option.some_or];rw [List.pairwise_append] at h;rcases List.mem_append.1 hk with hk | hk
  ·have := h.2.2 k hk x (by simp)
   omega
  ·rw [List.mem_singleton.1 hk]; exact Int.le_refl _
theorem OutTo.out {l : List Int} {i : Nat} {os ks : List Nat} (h : OutTo l i os ks) : OutTo l (i + 1) (os ++ [i]) ks where
 sum := by rw [List.length_append]; have := h.sum; simp; omega
 asc := h.asc
 lt := fun k hk => by have := h.lt k hk; omega
 num := h.num
theorem OutTo.keep {l : List Int} {i : Nat} {os ks : List Nat} (h : OutTo l i os ks) (hc : lastB l ks < drAt l i) : OutTo l (i + 1) os (ks ++ [i]) where
 sum := by rw [List.length_append]; have := h.sum; simp; omega
 asc := List.pairwise_append.2 ⟨h.asc, List.pairwise_singleton _ _, fun a ha b hb => by rw [List.mem_singleton.1 hb]; exact h.lt a ha⟩
 lt := fun k hk => by
  rcases List.mem_append.1 hk with hk | hk
  ·have := h.lt k hk; omega
  ·rw [List.mem_singleton.1 hk]; omega
 num := List.pairwise_append.2 ⟨h.num, List.pairwise_singleton _ _, fun a ha b hb => by
  rw [List.mem_singleton.1 hb];have := last_le h.num a ha;omega⟩
theorem Out_ok (l : List Int) (h0 : ∀ e ∈ l, 0 ≤ e ∧ e ≤ 95) (hl : l.length ≤ 90) (h1 : 0 < l.length) : ∃ q, lim F 6 [.list 1 (intsV l)] = some q ∧ ∃ os ks, q = (.tuple [.own 1 (natsV os), iv 0], []) ∧ OutTo l l.length os ks ∧ ks ≠ [] := by
 have hc := eCheckD_ok l h0 hl;have ht := threads_ok l (fun e he => (h0 e he).1) hl h1
 obtain ⟨q1, hL, L, rfl, hLo⟩ := longest_ok l hl;obtain ⟨q2, hm, m, rfl, hm1, hm2⟩ := most_ok L l.length hLo hl h1;have hth := fun i (hi : i < l.length) => th_get (l := l) hi
 have hln := th_len l l.length;have hd0 : ∀ i, i < l.length → 0 ≤ drAt l i := fun i hi => by
  unfold drAt;rw [List.getD_eq_getElem?_getD, List.getElem?_eq_getElem hi];exact (h0 _ (List.getElem_mem hi)).1
 have hlL : (natsV L).length = l.length := by simp [hLo.len]
 have hLg := fun k (hk : k < l.length) => nats_at (l := L) (i := k) (by rw [hLo.len]; exact hk)
 have hLr := hLo.rng;have htk : (thV l l.length).take l.length = thV l l.length := List.take_of_length_le (by simp)
 have htL : (natsV L).take l.length = natsV L := List.take_of_length_le (by omega)
 have pT := th_plain l l.length;have pL : (natsV L).all AV.plain = true := nat_plain L;generalize thV l l.length = es at *;generalize natsV L = LV at *;generalize intsV l = DV at *;generalize l.length = n at *;refine lim_ex (fn := a6) (k := 1) (res := [.tmp 2, .tmp 3]) rfl rfl rfl (by simp -implicitDefEqProofs(maxSteps:=9^7)(disch:=first|exact Yo rfl|omega|(simp only[go_sem]<;>omega)|fail)only[go_sem]) ?_
 try delta mvA
 try delta opA
 try delta tA
 simp -implicitDefEqProofs(maxSteps:=9^7)(disch:=first|exact Yo rfl|omega|(simp only[go_sem]<;>omega)|fail)only[go_sem]
 repeat(first|apply Ya|apply Yb|apply Yc|((first|apply Yd|apply Ye|apply Yf|apply Yg|apply Yh);simp -implicitDefEqProofs(maxSteps:=9^7)(disch:=first|exact Yo rfl|omega|(simp only[go_sem]<;>omega)|fail)only[go_sem, hc, ht, hL, hm, hln, hlL, htk, htL, pT, pL]<;>try with_reducible rfl)|apply Yi|apply Yj|apply Yk|apply Yl|apply Ym|apply Yn)
 apply Yu n (fun i fr => ∃ os ks, fr = ⟨[(2, .slice 128 0 os.length), (5, .slice 320 0 n), (6, .func 13 []), (7, .slice 448 0 n), (8, iv ((m : Int) - (ks.length : Int))), (9, .ptr 576 0 0), (27, .slice 320 0 n), (28, iv (n : Int)), (29, iv (i : Int))], [(128, .arr 1 (natsV os)), (320, .arr 2 es), (448, .arr 1 LV), (576, .box [iv (lastA ks), iv (lastB l ks)])], [], 10000000⟩ ∧ OutTo l i os ks ∧ (i = n → ks ≠ []))
 ·simp -implicitDefEqProofs(maxSteps:=9^7)(disch:=first|exact Yo rfl|omega|(simp only[go_sem]<;>omega)|fail)only[go_sem, norm_eq, Ok.some]
  refine ⟨[], [], ?_, ⟨rfl, List.Pairwise.nil, (by intro k hk; cases hk), List.Pairwise.nil⟩, fun e => by omega⟩
  simp [lastA, lastB]
 rintro i fr hi ⟨os, ks, rfl, ho, hz⟩;by_cases h' : i < n
 ·have g1 := hth i h'
  have d0 := hd0 i h';have q1 := ho.out;have q2 := ho.keep;have z1 : ks = [] → lastB l ks < drAt l i := fun e => by
   subst e;simp only [lastB, List.getLast?_nil];omega
  have z2 := ho.sum;have hA := fun k : Nat => apart_ok (lastA ks) (lastB l ks) (k : Int) (drAt l k)
  generalize hla : lastA ks = a at *;generalize hlb : lastB l ks = b at *;have n1 : (natsV os).length = os.length := by simp
  have t1 : (natsV os).take os.length = natsV os := List.take_of_length_le (by omega)
  have s2 : natsV (os ++ [i]) = natsV os ++ [iv (i : Int)] := by unfold natsV; rw [List.map_append]; rfl
  repeat(first|apply Ya|apply Yb|apply Yc|((first|apply Yd|apply Ye|apply Yf|apply Yg|apply Yh);simp -implicitDefEqProofs(maxSteps:=9^7)(disch:=first|exact Yo rfl|omega|(simp only[go_sem]<;>omega)|fail)only[go_sem, h', Int.ofNat_lt, hln, g1, Int.toNat_natCast]<;>try with_reducible rfl)|apply Yi|apply Yj|apply Yk|apply Yl|apply Ym|apply Yn)
  apply Yu (n - (i + 1)) (fun j fr => ∃ c : Nat, fr = ⟨[(2, .slice 128 0 os.length), (5, .slice 320 0 n), (6, .func 13 []), (7, .slice 448 0 n), (8, iv ((m : Int) - (ks.length : Int))), (9, .ptr 576 0 0), (11, .ptr 704 0 0), (12, iv (c : Int)), (13, iv ((i + 1 + j : Nat) : Int)), (27, .slice 320 0 n), (28, iv (n : Int)), (29, iv (i : Int))], [(128, .arr 1 (natsV os)), (320, .arr 2 es), (448, .arr 1 LV), (576, .box [iv a, iv b]), (704, .box [iv (i : Int), iv (drAt l i)])], [], 10000000⟩ ∧ c ≤ n ∧ (j = 0 → c = 0))
  ·simp -implicitDefEqProofs(maxSteps:=9^7)(disch:=first|exact Yo rfl|omega|(simp only[go_sem]<;>omega)|fail)only[go_sem, norm_eq, Ok.some]
   exact ⟨0, by simp, by omega, fun _ => rfl⟩
  rintro j fr hj ⟨c, rfl, hcn, hc0⟩;obtain ⟨k, hk⟩ : ∃ k, k = i + 1 + j := ⟨_, rfl⟩;rw [show i + 1 + (j + 1) = k + 1 by omega, ← hk]
  by_cases h2 : k < n
  ·have g2 := hth k h2
   have a2 := hA k;have b2 := hLr k h2 (by omega)
   have g3 := hLg k h2;by_cases c2 : b < drAt l k
   ·have mx : max (c : Int) ((L.getD k 0 : Nat) : Int) = ((max c (L.getD k 0) : Nat) : Int) := by omega
    generalize L.getD k 0 = x at *;repeat(first|apply Ya|apply Yb|apply Yc|((first|apply Yd|apply Ye|apply Yf|apply Yg|apply Yh);simp -implicitDefEqProofs(maxSteps:=9^7)(disch:=first|exact Yo rfl|omega|(simp only[go_sem]<;>omega)|fail)only[go_sem, h2, Int.ofNat_lt, hln, hlL, g2, g3, a2, c2, mx, Int.toNat_natCast]<;>try with_reducible rfl)|apply Yi|apply Yj|apply Yk|apply Yl|apply Ym|apply Yn)
    apply Ys
    ·simp -implicitDefEqProofs(maxSteps:=9^7)(disch:=first|exact Yo rfl|omega|(simp only[go_sem]<;>omega)|fail)only[go_sem, norm_eq, Ok.some]; with_reducible rfl
    exact ⟨by omega, max c x, by simp, by omega, fun e => by omega⟩
   ·repeat(first|apply Ya|apply Yb|apply Yc|((first|apply Yd|apply Ye|apply Yf|apply Yg|apply Yh);simp -implicitDefEqProofs(maxSteps:=9^7)(disch:=first|exact Yo rfl|omega|(simp only[go_sem]<;>omega)|fail)only[go_sem, h2, Int.ofNat_lt, hln, g2, a2, c2, Int.toNat_natCast]<;>try with_reducible rfl)|apply Yi|apply Yj|apply Yk|apply Yl|apply Ym|apply Yn)
    apply Ys
    ·simp -implicitDefEqProofs(maxSteps:=9^7)(disch:=first|exact Yo rfl|omega|(simp only[go_sem]<;>omega)|fail)only[go_sem, norm_eq, Ok.some]; with_reducible rfl
    exact ⟨by omega, c, by simp, by omega, fun e => by omega⟩
  ·by_cases c1 : (m : Int) - (ks.length : Int) ≤ (c : Int)
   ·repeat(first|apply Ya|apply Yb|apply Yc|((first|apply Yd|apply Ye|apply Yf|apply Yg|apply Yh);simp -implicitDefEqProofs(maxSteps:=9^7)(disch:=first|exact Yo rfl|omega|(simp only[go_sem]<;>omega)|fail)only[go_sem, h2, Int.ofNat_lt, hln, c1]<;>try with_reducible rfl)|apply Yi|apply Yj|apply Yk|apply Yl|apply Ym|apply Yn)
    apply Ys
    ·simp -implicitDefEqProofs(maxSteps:=9^7)(disch:=first|exact Yo rfl|omega|(simp only[go_sem]<;>omega)|fail)only[go_sem, norm_eq, Ok.some]; with_reducible rfl
    refine ⟨h', os ++ [i], ks, ?_, q1, fun e hks => ?_⟩
    ·rw [s2, hla, hlb]
     simp
    ·have := hc0 (by omega)
     rw [hks, List.length_nil] at c1;omega
   ·have a3 := hA i
    by_cases c2 : b < drAt l i
    ·repeat(first|apply Ya|apply Yb|apply Yc|((first|apply Yd|apply Ye|apply Yf|apply Yg|apply Yh);simp -implicitDefEqProofs(maxSteps:=9^7)(disch:=first|exact Yo rfl|omega|(simp only[go_sem]<;>omega)|fail)only[go_sem, h2, Int.ofNat_lt, hln, c1, a3, c2]<;>try with_reducible rfl)|apply Yi|apply Yj|apply Yk|apply Yl|apply Ym|apply Yn)
     apply Ys
     ·simp -implicitDefEqProofs(maxSteps:=9^7)(disch:=first|exact Yo rfl|omega|(simp only[go_sem]<;>omega)|fail)only[go_sem, norm_eq, Ok.some]; with_reducible rfl
     refine ⟨h', os, ks ++ [i], ?_, q2 c2, fun e hks => by simp at hks⟩
     rw [lastA_snoc, lastB_snoc];simp;omega
    ·repeat(first|apply Ya|apply Yb|apply Yc|((first|apply Yd|apply Ye|apply Yf|apply Yg|apply Yh);simp -implicitDefEqProofs(maxSteps:=9^7)(disch:=first|exact Yo rfl|omega|(simp only[go_sem]<;>omega)|fail)only[go_sem, h2, Int.ofNat_lt, hln, c1, a3, c2]<;>try with_reducible rfl)|apply Yi|apply Yj|apply Yk|apply Yl|apply Ym|apply Yn)
     apply Ys
     ·simp -implicitDefEqProofs(maxSteps:=9^7)(disch:=first|exact Yo rfl|omega|(simp only[go_sem]<;>omega)|fail)only[go_sem, norm_eq, Ok.some]; with_reducible rfl
     refine ⟨h', os ++ [i], ks, ?_, q1, fun e hks => c2 (z1 hks)⟩
     rw [s2, hla, hlb];simp
 ·obtain rfl : i = n := by omega
  have n1 : (natsV os).length = os.length := by simp
  have t1 : (natsV os).take os.length = natsV os := List.take_of_length_le (by omega)
  have p1 := nat_plain os;repeat(first|apply Ya|apply Yb|apply Yc|((first|apply Yd|apply Ye|apply Yf|apply Yg|apply Yh);simp -implicitDefEqProofs(maxSteps:=9^7)(disch:=first|exact Yo rfl|omega|(simp only[go_sem]<;>omega)|fail)only[go_sem, h', Int.ofNat_lt, hln]<;>try with_reducible rfl)|apply Yi|apply Yj|apply Yk|apply Yl|apply Ym|apply Yn)
  refine finp_ret (r := (.tuple [.own 1 (natsV os), iv 0], [])) ?_ ⟨os, ks, rfl, ho, hz rfl⟩;generalize natsV os = RV at *;simp -implicitDefEqProofs(maxSteps:=9^7)(disch:=first|exact Yo rfl|omega|(simp only[go_sem]<;>omega)|fail)only[go_sem, n1, t1, p1]
end Go.Abs
