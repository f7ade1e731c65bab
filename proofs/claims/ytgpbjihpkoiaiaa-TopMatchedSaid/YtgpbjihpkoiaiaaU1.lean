/-
 Several texts: L1, V1, V2, U1.
-/
import Derived.Test.YtgpbjihpkoiaiaaV0
set_option linter.all false
namespace Go.Abs
set_option maxRecDepth 10000
set_option maxHeartbeats 2000000
theorem Equal_ok (a b : List AV) (xa xb : List Int) (ea : a = xa.map fun n => iv n) (eb : b = xb.map fun n => iv n) (hl : xa.length ≤ 1000000) : lim F 73 [.list 1 a, .list 1 b] = some (.bool (decide (xa = xb)), []) := by
 subst ea eb;by_cases h1 : xa.length = xb.length
 ·refine Yr (fn:=a73) (k:=2) (res:=[.tmp 4]) rfl rfl rfl (by simp -implicitDefEqProofs(maxSteps:=9^7)(disch:=first|exact Yo rfl|omega|(simp only[go_sem]<;>omega)|fail)only[go_sem]) ?_
  try delta mvA
  try delta opA
  try delta tA
  simp -implicitDefEqProofs(maxSteps:=9^7)(disch:=first|exact Yo rfl|omega|(simp only[go_sem]<;>omega)|fail)only[go_sem]
  repeat(first|apply Ya|apply Yb|apply Yc|((first|apply Yd|apply Ye|apply Yf|apply Yg|apply Yh);simp -implicitDefEqProofs(maxSteps:=9^7)(disch:=first|exact Yo rfl|omega|(simp only[go_sem]<;>omega)|fail)only[go_sem, h1]<;>try with_reducible rfl)|apply Yi|apply Yj|apply Yk|apply Yl|apply Ym|apply Yn)
  apply Yt xa.length (fun i => ⟨[(0, .list 1 (xa.map fun n => iv n)), (1, .list 1 (xb.map fun n => iv n)), (12, iv xa.length), (13, iv i)], [], [], 10000000⟩) (fun i => ∀ j (hj : j < xa.length) (hj' : j < xb.length), j < i → xa[j] = xb[j])
  ·simp -implicitDefEqProofs(maxSteps:=9^7)(disch:=first|exact Yo rfl|omega|(simp only[go_sem]<;>omega)|fail)only[go_sem, norm_eq, Ok.some]
   rw [h1];try rfl
  ·intro j hj _ h; omega
  intro i hi hn;by_cases h : i < xa.length
  ·have h' : i < xb.length := by omega
   by_cases hb : xa[i] = xb[i]
   ·repeat(first|apply Ya|apply Yb|apply Yc|((first|apply Yd|apply Ye|apply Yf|apply Yg|apply Yh);simp -implicitDefEqProofs(maxSteps:=9^7)(disch:=first|exact Yo rfl|omega|(simp only[go_sem]<;>omega)|fail)only[go_sem, h, List.getElem?_map, List.getElem?_eq_getElem h, List.getElem?_eq_getElem h', Option.map_some, Int.ofNat_lt, hb]<;>try with_reducible rfl)|apply Yi|apply Yj|apply Yk|apply Yl|apply Ym|apply Yn)
    apply Ys
    ·simp -implicitDefEqProofs(maxSteps:=9^7)(disch:=first|exact Yo rfl|omega|(simp only[go_sem]<;>omega)|fail)only[go_sem, norm_eq, Ok.some]; with_reducible rfl
    refine ⟨h, by simp, fun j hj hj' hji => ?_⟩
    by_cases e : j = i
    ·subst e; exact hb
    ·exact hn j hj hj' (by omega)
   ·repeat(first|apply Ya|apply Yb|apply Yc|((first|apply Yd|apply Ye|apply Yf|apply Yg|apply Yh);simp -implicitDefEqProofs(maxSteps:=9^7)(disch:=first|exact Yo rfl|omega|(simp only[go_sem]<;>omega)|fail)only[go_sem, h, List.getElem?_map, List.getElem?_eq_getElem h, List.getElem?_eq_getElem h', Option.map_some, Int.ofNat_lt, hb]<;>try with_reducible rfl)|apply Yi|apply Yj|apply Yk|apply Yl|apply Ym|apply Yn)
    rw [decide_eq_false fun e : xa = xb => hb (by simp only [e])]
  ·repeat(first|apply Ya|apply Yb|apply Yc|((first|apply Yd|apply Ye|apply Yf|apply Yg|apply Yh);simp -implicitDefEqProofs(maxSteps:=9^7)(disch:=first|exact Yo rfl|omega|(simp only[go_sem]<;>omega)|fail)only[go_sem, h, Int.ofNat_lt]<;>try with_reducible rfl)|apply Yi|apply Yj|apply Yk|apply Yl|apply Ym|apply Yn)
   rw [decide_eq_true (List.ext_getElem h1 fun j hj hj' => hn j hj hj' (by omega))]
 ·refine Yr (fn:=a73) (k:=2) (res:=[.tmp 4]) rfl rfl rfl (by simp -implicitDefEqProofs(maxSteps:=9^7)(disch:=first|exact Yo rfl|omega|(simp only[go_sem]<;>omega)|fail)only[go_sem]) ?_
  try delta mvA
  try delta opA
  try delta tA
  simp -implicitDefEqProofs(maxSteps:=9^7)(disch:=first|exact Yo rfl|omega|(simp only[go_sem]<;>omega)|fail)only[go_sem]
  repeat(first|apply Ya|apply Yb|apply Yc|((first|apply Yd|apply Ye|apply Yf|apply Yg|apply Yh);simp -implicitDefEqProofs(maxSteps:=9^7)(disch:=first|exact Yo rfl|omega|(simp only[go_sem]<;>omega)|fail)only[go_sem, show ¬ (xa.length : Int) = xb.length by omega]<;>try with_reducible rfl)|apply Yi|apply Yj|apply Yk|apply Yl|apply Ym|apply Yn)
  rw [decide_eq_false fun e : xa = xb => h1 (by rw [e])]
def DesN.cap (d : DesN) : AV := .iptr (.agg [iv (d.hk : Int), .list 1 (d.rows.map fun n : Nat => iv (n : Int))]) 0
theorem leastA_ok (d : DesN) (hd : d.Ok) (k : Nat) (hk : k < d.rows.length) : lim F 72 [iv (k : Int), d.cap] = some (.bool (sameP d k), []) := by
 have hl := hd.r60;have h := Equal_ok (((d.rows.map fun n : Nat => iv (n : Int)).drop k)) ((d.rows.map fun n : Nat => iv (n : Int)).take (d.rows.length - k)) ((d.rows.drop k).map fun n : Nat => (n : Int)) ((d.rows.take (d.rows.length - k)).map fun n : Nat => (n : Int)) (by rw [List.map_map, List.map_drop]; rfl) (by rw [List.map_map, List.map_take]; rfl) (by simp; omega)
 have e : decide ((d.rows.drop k).map (fun n : Nat => (n : Int)) = (d.rows.take (d.rows.length - k)).map fun n : Nat => (n : Int)) = sameP d k := by
  unfold sameP;rw [decide_eq_decide];refine ⟨fun h => ?_, fun h => by rw [h]⟩
  have h2 := congrArg (fun l => l.map Int.toNat) h
  simp only [List.map_map] at h2;have e : (Int.toNat ∘ fun n : Nat => (n : Int)) = id := by funext n; simp
  rw [e, List.map_id, List.map_id] at h2;exact h2
 rw [e] at h;have hlen : (d.rows.map fun n : Nat => iv (n : Int)).length = d.rows.length := by simp
 unfold DesN.cap;generalize sameP d k = b at *;have etk : ((d.rows.map fun n : Nat => iv (n : Int)).drop k).take ((d.rows.length : Int) - k).toNat = (d.rows.map fun n : Nat => iv (n : Int)).drop k := List.take_of_length_le (by simp)
 have e2 : ((d.rows.length : Int) - k - 0).toNat = d.rows.length - k := by omega
 generalize (d.rows.map fun n : Nat => iv (n : Int)) = es at *
 refine Yr (fn:=a72) (k:=2) (res:=[.tmp 3]) rfl rfl rfl (by simp -implicitDefEqProofs(maxSteps:=9^7)(disch:=first|exact Yo rfl|omega|(simp only[go_sem]<;>omega)|fail)only[go_sem]) ?_
 try delta mvA
 try delta opA
 try delta tA
 simp -implicitDefEqProofs(maxSteps:=9^7)(disch:=first|exact Yo rfl|omega|(simp only[go_sem]<;>omega)|fail)only[go_sem]
 repeat(first|apply Ya|apply Yb|apply Yc|((first|apply Yd|apply Ye|apply Yf|apply Yg|apply Yh);simp -implicitDefEqProofs(maxSteps:=9^7)(disch:=first|exact Yo rfl|omega|(simp only[go_sem]<;>omega)|fail)only[go_sem, h, hlen, etk, e2, Int.toNat_natCast]<;>try with_reducible rfl)|apply Yi|apply Yj|apply Yk|apply Yl|apply Ym|apply Yn)
theorem period_ok (n : Nat) (P : Nat → Bool) (f : Nat) (x : AV) (hn : n ≤ 1000000) (hp : ∀ k, 1 ≤ k → k < n → lim F f [iv (k : Int), .iptr x 0] = some (.bool (P k), [])) :
  lim F 71 [iv (n : Int), .func f [.iptr x 0]] = some (iv ((perT n P : Nat) : Int), []) := by
 refine Yr (fn:=a71) (k:=2) (res:=[.tmp 4]) rfl rfl rfl (by simp -implicitDefEqProofs(maxSteps:=9^7)(disch:=first|exact Yo rfl|omega|(simp only[go_sem]<;>omega)|fail)only[go_sem]) ?_
 try delta mvA
 try delta opA
 try delta tA
 simp -implicitDefEqProofs(maxSteps:=9^7)(disch:=first|exact Yo rfl|omega|(simp only[go_sem]<;>omega)|fail)only[go_sem]
 repeat(first|apply Ya|apply Yb|apply Yc|((first|apply Yd|apply Ye|apply Yf|apply Yg|apply Yh);simp -implicitDefEqProofs(maxSteps:=9^7)(disch:=first|exact Yo rfl|omega|(simp only[go_sem]<;>omega)|fail)only[go_sem]<;>try with_reducible rfl)|apply Yi|apply Yj|apply Yk|apply Yl|apply Ym|apply Yn)
 apply Yt n (fun i => ⟨[(0, iv (n : Int)), (1, .func f [.iptr x 0]), (6, iv (n : Int)), (7, iv (i : Int))], [], [], 10000000⟩) (fun i => ∀ j, j < i → perAt n P j = false)
 ·simp -implicitDefEqProofs(maxSteps:=9^7)(disch:=first|exact Yo rfl|omega|(simp only[go_sem]<;>omega)|fail)only[go_sem, norm_eq, Ok.some]
  try rfl
 ·intro j h; omega
 intro i hi hs;by_cases h : i < n
 ·have em : Int.tmod (n : Int) (i : Int) = ((n % i : Nat) : Int) := by
   rw [Int.tmod_eq_emod_of_nonneg (Int.natCast_nonneg _)]; simp
  by_cases h1 : 1 ≤ i
  ·have hc := hp i h1 h
   by_cases h2 : n % i = 0
   ·rw [h2] at em
    rw [show ((0 : Nat) : Int) = 0 from rfl] at em
    cases hb : P i with
    | true =>
     rw [hb] at hc;have e : perT n P = i := perT_at h (by unfold perAt; rw [decide_eq_true h1, decide_eq_true h2, hb]; rfl) hs
     repeat(first|apply Ya|apply Yb|apply Yc|((first|apply Yd|apply Ye|apply Yf|apply Yg|apply Yh);simp -implicitDefEqProofs(maxSteps:=9^7)(disch:=first|exact Yo rfl|omega|(simp only[go_sem]<;>omega)|fail)only[go_sem, h, Int.ofNat_lt, em, hc, show (0 : Int) < i by omega, show (i : Int) ≠ 0 by omega]<;>try with_reducible rfl)|apply Yi|apply Yj|apply Yk|apply Yl|apply Ym|apply Yn)
     rw [e]
    | false =>
     rw [hb] at hc;repeat(first|apply Ya|apply Yb|apply Yc|((first|apply Yd|apply Ye|apply Yf|apply Yg|apply Yh);simp -implicitDefEqProofs(maxSteps:=9^7)(disch:=first|exact Yo rfl|omega|(simp only[go_sem]<;>omega)|fail)only[go_sem, h, Int.ofNat_lt, em, hc, show (0 : Int) < i by omega, show (i : Int) ≠ 0 by omega]<;>try with_reducible rfl)|apply Yi|apply Yj|apply Yk|apply Yl|apply Ym|apply Yn)
     apply Ys
     ·simp -implicitDefEqProofs(maxSteps:=9^7)(disch:=first|exact Yo rfl|omega|(simp only[go_sem]<;>omega)|fail)only[go_sem, norm_eq, Ok.some]; with_reducible rfl
     refine ⟨h, by simp, fun j hj => ?_⟩
     by_cases e : j = i
     ·subst e; unfold perAt; rw [hb, Bool.and_false]
     ·exact hs j (by omega)
   ·repeat(first|apply Ya|apply Yb|apply Yc|((first|apply Yd|apply Ye|apply Yf|apply Yg|apply Yh);simp -implicitDefEqProofs(maxSteps:=9^7)(disch:=first|exact Yo rfl|omega|(simp only[go_sem]<;>omega)|fail)only[go_sem, h, Int.ofNat_lt, em, show ¬ ((n % i : Nat) : Int) = 0 by omega, show (0 : Int) < i by omega, show (i : Int) ≠ 0 by omega]<;>try with_reducible rfl)|apply Yi|apply Yj|apply Yk|apply Yl|apply Ym|apply Yn)
    apply Ys
    ·simp -implicitDefEqProofs(maxSteps:=9^7)(disch:=first|exact Yo rfl|omega|(simp only[go_sem]<;>omega)|fail)only[go_sem, norm_eq, Ok.some]; with_reducible rfl
    refine ⟨h, by simp, fun j hj => ?_⟩
    by_cases e : j = i
    ·subst e; unfold perAt; rw [decide_eq_false h2, Bool.and_false, Bool.false_and]
    ·exact hs j (by omega)
  ·repeat(first|apply Ya|apply Yb|apply Yc|((first|apply Yd|apply Ye|apply Yf|apply Yg|apply Yh);simp -implicitDefEqProofs(maxSteps:=9^7)(disch:=first|exact Yo rfl|omega|(simp only[go_sem]<;>omega)|fail)only[go_sem, h, Int.ofNat_lt, show ¬ (0 : Int) < i by omega]<;>try with_reducible rfl)|apply Yi|apply Yj|apply Yk|apply Yl|apply Ym|apply Yn)
   apply Ys
   ·simp -implicitDefEqProofs(maxSteps:=9^7)(disch:=first|exact Yo rfl|omega|(simp only[go_sem]<;>omega)|fail)only[go_sem, norm_eq, Ok.some]; with_reducible rfl
   refine ⟨h, by simp, fun j hj => ?_⟩
   obtain rfl : j = 0 := by omega
   rfl
 ·repeat(first|apply Ya|apply Yb|apply Yc|((first|apply Yd|apply Ye|apply Yf|apply Yg|apply Yh);simp -implicitDefEqProofs(maxSteps:=9^7)(disch:=first|exact Yo rfl|omega|(simp only[go_sem]<;>omega)|fail)only[go_sem, h, Int.ofNat_lt]<;>try with_reducible rfl)|apply Yi|apply Yj|apply Yk|apply Yl|apply Ym|apply Yn)
  rw [perT_no fun j hj => hs j (by omega)]
theorem leastB_ok (d : DesN) (hd : d.Ok) (k r : Nat) (hk : k < d.hk) (hr : r < 2 ^ d.hk) : lim F 75 [iv (r : Int), .iptr (.agg [iv (k : Int)]) 0, d.cap] = some (.bool (sameRow d.hk k r), []) := by
 have h24 := hd.h24;have p1 : 2 ^ d.hk ≤ 2 ^ 24 := Nat.pow_le_pow_right (by omega) (by omega)
 have p2 : 2 ^ (d.hk - k) ≤ 2 ^ 24 := Nat.pow_le_pow_right (by omega) (by omega)
 have p3 : 0 < 2 ^ (d.hk - k) := Nat.pow_pos (by omega)
 have s1 := w_shr r k (by omega)
 have s2 := w_shl1 (d.hk - k) (by omega)
 have s3 := w_and r (2 ^ (d.hk - k) - 1) (by omega) (by omega)
 have et : ((d.hk : Int) - k).toNat = d.hk - k := by omega
 have es : ((2 ^ (d.hk - k) : Nat) : Int) - 1 = ((2 ^ (d.hk - k) - 1 : Nat) : Int) := by omega
 have eb : decide (((r >>> k : Nat) : Int) = ((r &&& (2 ^ (d.hk - k) - 1) : Nat) : Int)) = sameRow d.hk k r := by
  unfold sameRow; rw [decide_eq_decide]; exact Int.ofNat_inj
 unfold DesN.cap;generalize 2 ^ (d.hk - k) = m at *;generalize r >>> k = a at *;generalize r &&& (m - 1) = b at *;refine Yr (fn:=a75) (k:=3) (res:=[.tmp 4]) rfl rfl rfl (by simp -implicitDefEqProofs(maxSteps:=9^7)(disch:=first|exact Yo rfl|omega|(simp only[go_sem]<;>omega)|fail)only[go_sem]) ?_
 try delta mvA
 try delta opA
 try delta tA
 simp -implicitDefEqProofs(maxSteps:=9^7)(disch:=first|exact Yo rfl|omega|(simp only[go_sem]<;>omega)|fail)only[go_sem]
 repeat(first|apply Ya|apply Yb|apply Yc|((first|apply Yd|apply Ye|apply Yf|apply Yg|apply Yh);simp -implicitDefEqProofs(maxSteps:=9^7)(disch:=first|exact Yo rfl|omega|(simp only[go_sem]<;>omega)|fail)only[go_sem, s1, s2, s3, et, es, eb, Int.toNat_natCast]<;>try with_reducible rfl)|apply Yi|apply Yj|apply Yk|apply Yl|apply Ym|apply Yn)
theorem contains_one (l : List Int) (p : Int → Bool) (f : Nat) (x : AV) (hl : l.length < 1000000000) (hp : ∀ n ∈ l, lim F f [iv n, .iptr x 0] = some (.bool (p n), [])) :
  lim F 76 [.list 1 (l.map fun n => iv n), .func f [.iptr x 0]] = some (.bool (l.any p), []) := by
 have h : lim F 132 [.list 1 (l.map fun n => iv n), .func f [.iptr x 0]] = some (iv (idxF p l), []) := by
  refine Yr (fn:=a132) (k:=2) (res:=[.tmp 4]) rfl rfl rfl (by simp -implicitDefEqProofs(maxSteps:=9^7)(disch:=first|exact Yo rfl|omega|(simp only[go_sem]<;>omega)|fail)only[go_sem]) ?_
  try delta mvA
  try delta opA
  try delta tA
  simp -implicitDefEqProofs(maxSteps:=9^7)(disch:=first|exact Yo rfl|omega|(simp only[go_sem]<;>omega)|fail)only[go_sem]
  repeat(first|apply Ya|apply Yb|apply Yc|((first|apply Yd|apply Ye|apply Yf|apply Yg|apply Yh);simp -implicitDefEqProofs(maxSteps:=9^7)(disch:=first|exact Yo rfl|omega|(simp only[go_sem]<;>omega)|fail)only[go_sem]<;>try with_reducible rfl)|apply Yi|apply Yj|apply Yk|apply Yl|apply Ym|apply Yn)
  apply Yt l.length (fun i => ⟨[(0, .list 1 (l.map fun n => iv n)), (1, .func f [.iptr x 0]), (7, iv l.length), (8, iv i)], [], [], 10000000⟩) (fun i => ∀ j (hj : j < l.length), j < i → p l[j] = false)
  ·simp -implicitDefEqProofs(maxSteps:=9^7)(disch:=first|exact Yo rfl|omega|(simp only[go_sem]<;>omega)|fail)only[go_sem, norm_eq, Ok.some]
   rfl
  ·intro j hj h; omega
  intro i hi hn;by_cases h : i < l.length
  ·have hc := hp l[i] (List.getElem_mem h)
   cases hb : p l[i] with
   | true =>
    rw [hb] at hc;repeat(first|apply Ya|apply Yb|apply Yc|((first|apply Yd|apply Ye|apply Yf|apply Yg|apply Yh);simp -implicitDefEqProofs(maxSteps:=9^7)(disch:=first|exact Yo rfl|omega|(simp only[go_sem]<;>omega)|fail)only[go_sem, h, List.getElem?_map, List.getElem?_eq_getElem h, Option.map_some, hc, Int.ofNat_lt]<;>try with_reducible rfl)|apply Yi|apply Yj|apply Yk|apply Yl|apply Ym|apply Yn)
    rw [idxF_at h hb hn]
   | false =>
    rw [hb] at hc;repeat(first|apply Ya|apply Yb|apply Yc|((first|apply Yd|apply Ye|apply Yf|apply Yg|apply Yh);simp -implicitDefEqProofs(maxSteps:=9^7)(disch:=first|exact Yo rfl|omega|(simp only[go_sem]<;>omega)|fail)only[go_sem, h, List.getElem?_map, List.getElem?_eq_getElem h, Option.map_some, hc, Int.ofNat_lt]<;>try with_reducible rfl)|apply Yi|apply Yj|apply Yk|apply Yl|apply Ym|apply Yn)
    apply Ys
    ·simp -implicitDefEqProofs(maxSteps:=9^7)(disch:=first|exact Yo rfl|omega|(simp only[go_sem]<;>omega)|fail)only[go_sem, norm_eq, Ok.some]; with_reducible rfl
    refine ⟨h, by simp, fun j hj hji => ?_⟩
    by_cases e : j = i
    ·subst e; exact hb
    ·exact hn j hj (by omega)
  ·repeat(first|apply Ya|apply Yb|apply Yc|((first|apply Yd|apply Ye|apply Yf|apply Yg|apply Yh);simp -implicitDefEqProofs(maxSteps:=9^7)(disch:=first|exact Yo rfl|omega|(simp only[go_sem]<;>omega)|fail)only[go_sem, h, Int.ofNat_lt]<;>try with_reducible rfl)|apply Yi|apply Yj|apply Yk|apply Yl|apply Ym|apply Yn)
   rw [idxF_no fun j hj => hn j hj (by omega)]
 refine Yr (fn:=a76) (k:=2) (res:=[.tmp 4]) rfl rfl rfl (by simp -implicitDefEqProofs(maxSteps:=9^7)(disch:=first|exact Yo rfl|omega|(simp only[go_sem]<;>omega)|fail)only[go_sem]) ?_
 try delta mvA
 try delta opA
 try delta tA
 simp -implicitDefEqProofs(maxSteps:=9^7)(disch:=first|exact Yo rfl|omega|(simp only[go_sem]<;>omega)|fail)only[go_sem]
 repeat(first|apply Ya|apply Yb|apply Yc|((first|apply Yd|apply Ye|apply Yf|apply Yg|apply Yh);simp -implicitDefEqProofs(maxSteps:=9^7)(disch:=first|exact Yo rfl|omega|(simp only[go_sem]<;>omega)|fail)only[go_sem, h, idxF_ge]<;>try with_reducible rfl)|apply Yi|apply Yj|apply Yk|apply Yl|apply Ym|apply Yn)
theorem leastC_ok (d : DesN) (hd : d.Ok) (k r : Nat) (hk : k < d.hk) (hr : r < 2 ^ d.hk) : lim F 77 [iv (r : Int), .iptr (.agg [.func 75 [.iptr (.agg [iv (k : Int)]) 0, d.cap]]) 0] = some (.bool (!sameRow d.hk k r), []) := by
 have h := leastB_ok d hd k r hk hr;unfold DesN.cap at *;generalize sameRow d.hk k r = b at *;refine Yr (fn:=a77) (k:=2) (res:=[.tmp 3]) rfl rfl rfl (by simp -implicitDefEqProofs(maxSteps:=9^7)(disch:=first|exact Yo rfl|omega|(simp only[go_sem]<;>omega)|fail)only[go_sem]) ?_
 try delta mvA
 try delta opA
 try delta tA
 simp -implicitDefEqProofs(maxSteps:=9^7)(disch:=first|exact Yo rfl|omega|(simp only[go_sem]<;>omega)|fail)only[go_sem]
 repeat(first|apply Ya|apply Yb|apply Yc|((first|apply Yd|apply Ye|apply Yf|apply Yg|apply Yh);simp -implicitDefEqProofs(maxSteps:=9^7)(disch:=first|exact Yo rfl|omega|(simp only[go_sem]<;>omega)|fail)only[go_sem, h]<;>try with_reducible rfl)|apply Yi|apply Yj|apply Yk|apply Yl|apply Ym|apply Yn)
theorem leastD_ok (d : DesN) (hd : d.Ok) (k : Nat) (hk : k < d.hk) : lim F 74 [iv (k : Int), d.cap] = some (.bool (sameH d k), []) := by
 have hl := hd.r60;have h := contains_one (d.rows.map fun n : Nat => (n : Int)) (fun r => !sameRow d.hk k r.toNat) 77 (.agg [.func 75 [.iptr (.agg [iv (k : Int)]) 0, d.cap]]) (by simp; omega) (fun n hn => by
  obtain ⟨r, hr, rfl⟩ := List.mem_map.1 hn;exact leastC_ok d hd k r hk (hd.lt r hr))
 rw [List.map_map] at h;have e1 : ((fun n => iv n) ∘ fun n : Nat => (n : Int)) = fun n : Nat => iv (n : Int) := rfl
 rw [e1] at h;have e : sameH d k = !((d.rows.map fun n : Nat => (n : Int)).any fun r => !sameRow d.hk k r.toNat) := by
  unfold sameH;rw [List.any_map, List.all_eq_not_any_not];rfl
 rw [e];generalize ((d.rows.map fun n : Nat => (n : Int)).any fun r => !sameRow d.hk k r.toNat) = b at *
 unfold DesN.cap at *;have hN : Value.nilFunc.oneCell' = true := rfl;refine Yr (fn:=a74) (k:=2) (res:=[.tmp 3]) rfl rfl rfl (by simp -implicitDefEqProofs(maxSteps:=9^7)(disch:=first|exact Yo rfl|omega|(simp only[go_sem]<;>omega)|fail)only[go_sem]) ?_
 try delta mvA
 try delta opA
 try delta tA
 simp -implicitDefEqProofs(maxSteps:=9^7)(disch:=first|exact Yo rfl|omega|(simp only[go_sem]<;>omega)|fail)only[go_sem]
 repeat(first|apply Ya|apply Yb|apply Yc|((first|apply Yd|apply Ye|apply Yf|apply Yg|apply Yh);simp -implicitDefEqProofs(maxSteps:=9^7)(disch:=first|exact Yo rfl|omega|(simp only[go_sem]<;>omega)|fail)only[go_sem, h, hN]<;>try with_reducible rfl)|apply Yi|apply Yj|apply Yk|apply Yl|apply Ym|apply Yn)
theorem Least_ok (d : DesN) (hd : d.Ok) : lim F 29 [d.av] = some (.tuple [iv ((leastP d : Nat) : Int), iv ((leastH d : Nat) : Int), iv 0], []) := by
 have h1 := hd.h24;have h2 := hd.r60;have hc := Check_ok d.a (by simp [DesN.a]; omega)
 rw [checkD_ok hd, DesN.a_av] at hc;have p1 := period_ok d.rows.length (sameP d) 72 (.agg [iv (d.hk : Int), .list 1 (d.rows.map fun n : Nat => iv (n : Int))]) (by omega) (fun k _ hk => leastA_ok d hd k hk)
 have p2 := period_ok d.hk (sameH d) 74 (.agg [iv (d.hk : Int), .list 1 (d.rows.map fun n : Nat => iv (n : Int))]) (by omega) (fun k _ hk => leastD_ok d hd k hk)
 unfold leastP leastH DesN.av at *;refine Yr (fn:=a29) (k:=1) (res:=[.tmp 2, .tmp 3, .tmp 4]) rfl rfl rfl (by simp -implicitDefEqProofs(maxSteps:=9^7)(disch:=first|exact Yo rfl|omega|(simp only[go_sem]<;>omega)|fail)only[go_sem]) ?_
 try delta mvA
 try delta opA
 try delta tA
 simp -implicitDefEqProofs(maxSteps:=9^7)(disch:=first|exact Yo rfl|omega|(simp only[go_sem]<;>omega)|fail)only[go_sem]
 repeat(first|apply Ya|apply Yb|apply Yc|((first|apply Yd|apply Ye|apply Yf|apply Yg|apply Yh);simp -implicitDefEqProofs(maxSteps:=9^7)(disch:=first|exact Yo rfl|omega|(simp only[go_sem]<;>omega)|fail)only[go_sem, hc, p1, p2]<;>try with_reducible rfl)|apply Yi|apply Yj|apply Yk|apply Yl|apply Ym|apply Yn)
end Go.Abs
set_option linter.all false
namespace Go.Abs
set_option maxRecDepth 10000
set_option maxHeartbeats 4000000
def Lr (g : Nat → Nat → Bool) (picks hooks p v : Nat) : List AV := (List.range picks).map fun q => iv ((if q < p then rowTo (g q) hooks else if q = p then v else 0 : Nat) : Int)
def madeN (g : Nat → Nat → Bool) (picks hooks : Nat) : DesN := ⟨hooks, (List.range picks).map fun q => rowTo (g q) hooks⟩
end Go.Abs
set_option linter.all false
namespace Go.Abs
set_option maxRecDepth 10000
set_option maxHeartbeats 4000000
def mirrorN (d : DesN) : DesN := madeN (fun p h => atN d p (d.hk - 1 - h)) d.rows.length d.hk
def flipN (d : DesN) : DesN := madeN (fun p h => atN d (d.rows.length - 1 - p) h) d.rows.length d.hk
def backN (d : DesN) : DesN := madeN (fun p h => !atN d p h) d.rows.length d.hk
def shiftN (d : DesN) (a b : Nat) : DesN := madeN (fun p h => atN d (p + d.rows.length - a) (h + d.hk - b)) d.rows.length d.hk
def DesN.out (d : DesN) : AV := .agg [iv (d.hk : Int), .own 1 (d.rows.map fun n : Nat => iv (n : Int))]
end Go.Abs
set_option linter.all false
namespace Go.Abs
set_option maxRecDepth 10000
set_option maxHeartbeats 4000000
abbrev WordB := Fin 65536
def wordsV (l : List WordB) : List AV := l.map fun r => .int .u16 (r.1 : Int)
@[simp] theorem words_len (l : List WordB) : (wordsV l).length = l.length := by simp [wordsV]
def wsrc (l : List WordB) (i : Nat) : Nat := (l[i]?.map fun r => r.1).getD 1
def pubN (v : Nat) (l : List WordB) : DesN := ⟨2 + v % 7, (List.range (max 1 (min l.length 12))).map fun i => wsrc l i % 2 ^ (2 + v % 7)⟩
end Go.Abs
