/-
 Chapter 6: contracts of warps. No condition beyond those that each theorem names.
-/
import Derived.Test.YtlcikiobkmajbaaG6
set_option linter.all false
namespace Go.Abs.Beam
set_option maxRecDepth 10000
set_option maxHeartbeats 1000000
structure WarpA where
 ll : Int
 lh : Int
 sl : Int
 sh : Int
 cl : Int
 ch : Int
 wl : Int
 wh : Int
def WarpA.av (w : WarpA) : AV := .agg [iv w.ll, iv w.lh, iv w.sl, iv w.sh, iv w.cl, iv w.ch, iv w.wl, iv w.wh]
abbrev WarpA.Ok (w : WarpA) : Prop := SpanOk w.ll w.lh 0 10000000000 ∧ SpanOk w.sl w.sh 0 200 ∧ SpanOk w.cl w.ch 0 300 ∧ SpanOk w.wl w.wh 0 100000000
def warpE (w : WarpA) : Int := if w.Ok then 0 else 2
theorem Warp_ok (w : WarpA) : lim F 41 [w.av] = some (iv (warpE w), []) := by
 have h1 := isSpan_ok w.ll w.lh 0 10000000000;have h2 := isSpan_ok w.sl w.sh 0 200;have h3 := isSpan_ok w.cl w.ch 0 300;have h4 := isSpan_ok w.wl w.wh 0 100000000;unfold warpE WarpA.av;by_cases c1 : SpanOk w.ll w.lh 0 10000000000
 ·by_cases c2 : SpanOk w.sl w.sh 0 200
  ·by_cases c3 : SpanOk w.cl w.ch 0 300
   ·by_cases c4 : SpanOk w.wl w.wh 0 100000000
    ·rw [decide_eq_true c1] at h1
     rw [decide_eq_true c2] at h2;rw [decide_eq_true c3] at h3;rw [decide_eq_true c4] at h4;refine Yr (fn:=a41) (k:=1) (res:=[.tmp 2]) rfl rfl rfl (by simp -implicitDefEqProofs(maxSteps:=9^7)(disch:=first|exact Yo rfl|omega|(simp only[go_sem]<;>omega)|fail)only[go_sem]) ?_
     try delta mvA
     try delta opA
     try delta tA
     simp -implicitDefEqProofs(maxSteps:=9^7)(disch:=first|exact Yo rfl|omega|(simp only[go_sem]<;>omega)|fail)only[go_sem]
     repeat(first|apply Ya|apply Yb|apply Yc|((first|apply Yd|apply Ye|apply Yf|apply Yg|apply Yh);simp -implicitDefEqProofs(maxSteps:=9^7)(disch:=first|exact Yo rfl|omega|(simp only[go_sem]<;>omega)|fail)only[go_sem, h1, h2, h3, h4]<;>try with_reducible rfl)|apply Yi|apply Yj|apply Yk|apply Yl|apply Ym|apply Yn)
     rw [if_pos ⟨c1, c2, c3, c4⟩]
    ·rw [decide_eq_true c1] at h1
     rw [decide_eq_true c2] at h2;rw [decide_eq_true c3] at h3;rw [decide_eq_false c4] at h4;refine Yr (fn:=a41) (k:=1) (res:=[.tmp 2]) rfl rfl rfl (by simp -implicitDefEqProofs(maxSteps:=9^7)(disch:=first|exact Yo rfl|omega|(simp only[go_sem]<;>omega)|fail)only[go_sem]) ?_
     try delta mvA
     try delta opA
     try delta tA
     simp -implicitDefEqProofs(maxSteps:=9^7)(disch:=first|exact Yo rfl|omega|(simp only[go_sem]<;>omega)|fail)only[go_sem]
     repeat(first|apply Ya|apply Yb|apply Yc|((first|apply Yd|apply Ye|apply Yf|apply Yg|apply Yh);simp -implicitDefEqProofs(maxSteps:=9^7)(disch:=first|exact Yo rfl|omega|(simp only[go_sem]<;>omega)|fail)only[go_sem, h1, h2, h3, h4]<;>try with_reducible rfl)|apply Yi|apply Yj|apply Yk|apply Yl|apply Ym|apply Yn)
     rw [if_neg fun h => c4 h.2.2.2]
   ·rw [decide_eq_true c1] at h1
    rw [decide_eq_true c2] at h2;rw [decide_eq_false c3] at h3;refine Yr (fn:=a41) (k:=1) (res:=[.tmp 2]) rfl rfl rfl (by simp -implicitDefEqProofs(maxSteps:=9^7)(disch:=first|exact Yo rfl|omega|(simp only[go_sem]<;>omega)|fail)only[go_sem]) ?_
    try delta mvA
    try delta opA
    try delta tA
    simp -implicitDefEqProofs(maxSteps:=9^7)(disch:=first|exact Yo rfl|omega|(simp only[go_sem]<;>omega)|fail)only[go_sem]
    repeat(first|apply Ya|apply Yb|apply Yc|((first|apply Yd|apply Ye|apply Yf|apply Yg|apply Yh);simp -implicitDefEqProofs(maxSteps:=9^7)(disch:=first|exact Yo rfl|omega|(simp only[go_sem]<;>omega)|fail)only[go_sem, h1, h2, h3]<;>try with_reducible rfl)|apply Yi|apply Yj|apply Yk|apply Yl|apply Ym|apply Yn)
    rw [if_neg fun h => c3 h.2.2.1]
  ·rw [decide_eq_true c1] at h1
   rw [decide_eq_false c2] at h2;refine Yr (fn:=a41) (k:=1) (res:=[.tmp 2]) rfl rfl rfl (by simp -implicitDefEqProofs(maxSteps:=9^7)(disch:=first|exact Yo rfl|omega|(simp only[go_sem]<;>omega)|fail)only[go_sem]) ?_
   try delta mvA
   try delta opA
   try delta tA
   simp -implicitDefEqProofs(maxSteps:=9^7)(disch:=first|exact Yo rfl|omega|(simp only[go_sem]<;>omega)|fail)only[go_sem]
   repeat(first|apply Ya|apply Yb|apply Yc|((first|apply Yd|apply Ye|apply Yf|apply Yg|apply Yh);simp -implicitDefEqProofs(maxSteps:=9^7)(disch:=first|exact Yo rfl|omega|(simp only[go_sem]<;>omega)|fail)only[go_sem, h1, h2]<;>try with_reducible rfl)|apply Yi|apply Yj|apply Yk|apply Yl|apply Ym|apply Yn)
   rw [if_neg fun h => c2 h.2.1]
 ·rw [decide_eq_false c1] at h1
  refine Yr (fn:=a41) (k:=1) (res:=[.tmp 2]) rfl rfl rfl (by simp -implicitDefEqProofs(maxSteps:=9^7)(disch:=first|exact Yo rfl|omega|(simp only[go_sem]<;>omega)|fail)only[go_sem]) ?_
  try delta mvA
  try delta opA
  try delta tA
  simp -implicitDefEqProofs(maxSteps:=9^7)(disch:=first|exact Yo rfl|omega|(simp only[go_sem]<;>omega)|fail)only[go_sem]
  repeat(first|apply Ya|apply Yb|apply Yc|((first|apply Yd|apply Ye|apply Yf|apply Yg|apply Yh);simp -implicitDefEqProofs(maxSteps:=9^7)(disch:=first|exact Yo rfl|omega|(simp only[go_sem]<;>omega)|fail)only[go_sem, h1]<;>try with_reducible rfl)|apply Yi|apply Yj|apply Yk|apply Yl|apply Ym|apply Yn)
  rw [if_neg fun h => c1 h.1]
def clothV (s c a n : Int) : Int := max 0 (n * (1000 + s) / 1000 * (1000 - c) / 1000 - a)
structure YOk (s c a n : Int) : Prop where
 n0 : 0 ≤ n
 n1 : n ≤ 10000000001
 s0 : 0 ≤ s
 s1 : s ≤ 200
 c0 : 0 ≤ c
 c1 : c ≤ 300
 a0 : 0 ≤ a
 a1 : a ≤ 100000000
theorem YOk.x {s c a n : Int} (h : YOk s c a n) : 0 ≤ n * (1000 + s) ∧ n * (1000 + s) ≤ 12000000001200 :=
 ⟨Int.mul_nonneg h.n0 (by have := h.s0; omega), by
  have := Int.mul_le_mul h.n1 (show 1000 + s ≤ 1200 by have := h.s1; omega) (by have := h.s0; omega) (by omega); omega⟩
theorem YOk.y {s c a n : Int} (h : YOk s c a n) : 0 ≤ n * (1000 + s) / 1000 * (1000 - c) ∧ n * (1000 + s) / 1000 * (1000 - c) ≤ 12000000002000 := by
 have hx := h.x;have h0 : 0 ≤ n * (1000 + s) / 1000 := by omega
 have h1 : n * (1000 + s) / 1000 ≤ 12000000002 := by omega
 exact ⟨Int.mul_nonneg h0 (by have := h.c1; omega), by
  have := Int.mul_le_mul h1 (show 1000 - c ≤ 1000 by have := h.c0; omega) (by have := h.c1; omega) (by omega); omega⟩
theorem YOk.bound {s c a n : Int} (h : YOk s c a n) : 0 ≤ clothV s c a n ∧ clothV s c a n ≤ 12000000003 := by
 have hy := h.y;have := h.a0;unfold clothV;omega
theorem YOk.mono {s c a n s' c' a' n' : Int} (h : YOk s c a n) (h' : YOk s' c' a' n') (hn : n ≤ n') (hs : s ≤ s') (hc : c' ≤ c) (ha : a' ≤ a) : clothV s c a n ≤ clothV s' c' a' n' := by
 have h1 : n * (1000 + s) ≤ n' * (1000 + s') := Int.mul_le_mul hn (by omega) (by have := h.s0; omega) (by have := h'.n0; omega)
 have h2 : n * (1000 + s) / 1000 ≤ n' * (1000 + s') / 1000 := Int.ediv_le_ediv (by omega) h1
 have h3 : n * (1000 + s) / 1000 * (1000 - c) ≤ n' * (1000 + s') / 1000 * (1000 - c') := Int.mul_le_mul h2 (by omega) (by have := h.c1; omega) (by have := h'.x; omega)
 have h4 := Int.ediv_le_ediv (c := 1000) (by omega) h3
 unfold clothV;omega
theorem cloth_ok (s c a n : Int) (h : YOk s c a n) : lim F 45 [.agg [iv s, iv c, iv a], iv n] = some (iv (clothV s c a n), []) := by
 have hx := h.x;have hy := h.y;have d1 : Int.tdiv (n * (1000 + s)) 1000 = n * (1000 + s) / 1000 := Int.tdiv_eq_ediv_of_nonneg hx.1;have d2 : Int.tdiv (n * (1000 + s) / 1000 * (1000 - c)) 1000 = n * (1000 + s) / 1000 * (1000 - c) / 1000 := Int.tdiv_eq_ediv_of_nonneg hy.1;obtain ⟨n0, n1, s0, s1, c0, c1, a0, a1⟩ := h;unfold clothV;refine Yr (fn:=a45) (k:=2) (res:=[.tmp 4]) rfl rfl rfl (by simp -implicitDefEqProofs(maxSteps:=9^7)(disch:=first|exact Yo rfl|omega|(simp only[go_sem]<;>omega)|fail)only[go_sem]) ?_
 try delta mvA
 try delta opA
 try delta tA
 simp -implicitDefEqProofs(maxSteps:=9^7)(disch:=first|exact Yo rfl|omega|(simp only[go_sem]<;>omega)|fail)only[go_sem]
 repeat(first|apply Ya|apply Yb|apply Yc|((first|apply Yd|apply Ye|apply Yf|apply Yg|apply Yh);simp -implicitDefEqProofs(maxSteps:=9^7)(disch:=first|exact Yo rfl|omega|(simp only[go_sem]<;>omega)|fail)only[go_sem, d1, d2]<;>try with_reducible rfl)|apply Yi|apply Yj|apply Yk|apply Yl|apply Ym|apply Yn)
theorem worst_ok (w : WarpA) : lim F 44 [w.av] = some (.agg [iv w.sl, iv w.ch, iv w.wh], []) := by
 unfold WarpA.av;refine Yr (fn:=a44) (k:=1) (res:=[.cell 2 3 true]) rfl rfl rfl (by simp -implicitDefEqProofs(maxSteps:=9^7)(disch:=first|exact Yo rfl|omega|(simp only[go_sem]<;>omega)|fail)only[go_sem]) ?_
 try delta mvA
 try delta opA
 try delta tA
 simp -implicitDefEqProofs(maxSteps:=9^7)(disch:=first|exact Yo rfl|omega|(simp only[go_sem]<;>omega)|fail)only[go_sem]
 repeat(first|apply Ya|apply Yb|apply Yc|((first|apply Yd|apply Ye|apply Yf|apply Yg|apply Yh);simp -implicitDefEqProofs(maxSteps:=9^7)(disch:=first|exact Yo rfl|omega|(simp only[go_sem]<;>omega)|fail)only[go_sem]<;>try with_reducible rfl)|apply Yi|apply Yj|apply Yk|apply Yl|apply Ym|apply Yn)
theorem best_ok (w : WarpA) : lim F 46 [w.av] = some (.agg [iv w.sh, iv w.cl, iv w.wl], []) := by
 unfold WarpA.av;refine Yr (fn:=a46) (k:=1) (res:=[.cell 2 3 true]) rfl rfl rfl (by simp -implicitDefEqProofs(maxSteps:=9^7)(disch:=first|exact Yo rfl|omega|(simp only[go_sem]<;>omega)|fail)only[go_sem]) ?_
 try delta mvA
 try delta opA
 try delta tA
 simp -implicitDefEqProofs(maxSteps:=9^7)(disch:=first|exact Yo rfl|omega|(simp only[go_sem]<;>omega)|fail)only[go_sem]
 repeat(first|apply Ya|apply Yb|apply Yc|((first|apply Yd|apply Ye|apply Yf|apply Yg|apply Yh);simp -implicitDefEqProofs(maxSteps:=9^7)(disch:=first|exact Yo rfl|omega|(simp only[go_sem]<;>omega)|fail)only[go_sem]<;>try with_reducible rfl)|apply Yi|apply Yj|apply Yk|apply Yl|apply Ym|apply Yn)
def WarpA.low (w : WarpA) : Int := clothV w.sl w.ch w.wh w.ll
def WarpA.high (w : WarpA) : Int := clothV w.sh w.cl w.wl w.lh
theorem WarpA.Ok.y {w : WarpA} (h : w.Ok) {s c a n : Int} (h1 : 0 ≤ n) (h2 : n ≤ 10000000001) (h3 : w.sl ≤ s) (h4 : s ≤ w.sh) (h5 : w.cl ≤ c) (h6 : c ≤ w.ch) (h7 : w.wl ≤ a) (h8 : a ≤ w.wh) : YOk s c a n := by
 obtain ⟨g1, g2, g3, g4⟩ := h;constructor <;> omega
theorem Gives_ok (w : WarpA) : lim F 16 [w.av] = some (.tuple [.agg [iv (if warpE w = 0 then w.low else 0), iv (if warpE w = 0 then w.high else 0)], iv (warpE w)], []) := by
 have h0 := Warp_ok w;have h1 := worst_ok w;have h2 := best_ok w;by_cases h : w.Ok
 ·have e : warpE w = 0 := if_pos h
  have hs := h;obtain ⟨g1, g2, g3, g4⟩ := hs;have k1 := cloth_ok w.sl w.ch w.wh w.ll (h.y (by omega) (by omega) (by omega) (by omega) (by omega) (by omega) (by omega) (by omega))
  have k2 := cloth_ok w.sh w.cl w.wl w.lh (h.y (by omega) (by omega) (by omega) (by omega) (by omega) (by omega) (by omega) (by omega))
  rw [e] at h0 ⊢;rw [if_pos rfl, if_pos rfl];unfold WarpA.low WarpA.high;clear g1 g2 g3 g4;unfold WarpA.av at *;refine Yr (fn:=a16) (k:=1) (res:=[.cell 2 2 true, .tmp 3]) rfl rfl rfl (by simp -implicitDefEqProofs(maxSteps:=9^7)(disch:=first|exact Yo rfl|omega|(simp only[go_sem]<;>omega)|fail)only[go_sem]) ?_
  try delta mvA
  try delta opA
  try delta tA
  simp -implicitDefEqProofs(maxSteps:=9^7)(disch:=first|exact Yo rfl|omega|(simp only[go_sem]<;>omega)|fail)only[go_sem]
  repeat(first|apply Ya|apply Yb|apply Yc|((first|apply Yd|apply Ye|apply Yf|apply Yg|apply Yh);simp -implicitDefEqProofs(maxSteps:=9^7)(disch:=first|exact Yo rfl|omega|(simp only[go_sem]<;>omega)|fail)only[go_sem, h0, h1, h2, k1, k2]<;>try with_reducible rfl)|apply Yi|apply Yj|apply Yk|apply Yl|apply Ym|apply Yn)
 ·have e : warpE w = 2 := if_neg h
  rw [e] at h0 ⊢;rw [if_neg (by omega), if_neg (by omega)]
  unfold WarpA.av at *;refine Yr (fn:=a16) (k:=1) (res:=[.cell 2 2 true, .tmp 3]) rfl rfl rfl (by simp -implicitDefEqProofs(maxSteps:=9^7)(disch:=first|exact Yo rfl|omega|(simp only[go_sem]<;>omega)|fail)only[go_sem]) ?_
  try delta mvA
  try delta opA
  try delta tA
  simp -implicitDefEqProofs(maxSteps:=9^7)(disch:=first|exact Yo rfl|omega|(simp only[go_sem]<;>omega)|fail)only[go_sem]
  repeat(first|apply Ya|apply Yb|apply Yc|((first|apply Yd|apply Ye|apply Yf|apply Yg|apply Yh);simp -implicitDefEqProofs(maxSteps:=9^7)(disch:=first|exact Yo rfl|omega|(simp only[go_sem]<;>omega)|fail)only[go_sem, h0]<;>try with_reducible rfl)|apply Yi|apply Yj|apply Yk|apply Yl|apply Ym|apply Yn)
def WarpA.need (w : WarpA) (c : Int) : Nat := firstP (fun n => decide (c ≤ clothV w.sl w.ch w.wh n)) 10000000001
theorem need1_ok (w : WarpA) (h : w.Ok) (c n : Int) (h0 : 0 ≤ n) (h1 : n ≤ 10000000000) : lim F 43 [iv n, .iptr w.av 0, .iptr (.agg [iv c]) 0] = some (.bool (decide (c ≤ clothV w.sl w.ch w.wh n)), []) := by
 have hs := h;obtain ⟨g1, g2, g3, g4⟩ := hs;have k1 := cloth_ok w.sl w.ch w.wh n (h.y h0 (by omega) (by omega) (by omega) (by omega) (by omega) (by omega) (by omega))
 have k2 := worst_ok w;clear g1 g2 g3 g4;unfold WarpA.av at *;by_cases hc : c ≤ clothV w.sl w.ch w.wh n
 all_goals
  refine Yr (fn:=a43) (k:=3) (res:=[.tmp 4]) rfl rfl rfl (by simp -implicitDefEqProofs(maxSteps:=9^7)(disch:=first|exact Yo rfl|omega|(simp only[go_sem]<;>omega)|fail)only[go_sem]) ?_
  try delta mvA
  try delta opA
  try delta tA
  simp -implicitDefEqProofs(maxSteps:=9^7)(disch:=first|exact Yo rfl|omega|(simp only[go_sem]<;>omega)|fail)only[go_sem]
  repeat(first|apply Ya|apply Yb|apply Yc|((first|apply Yd|apply Ye|apply Yf|apply Yg|apply Yh);simp -implicitDefEqProofs(maxSteps:=9^7)(disch:=first|exact Yo rfl|omega|(simp only[go_sem]<;>omega)|fail)only[go_sem, k1, k2, hc, ge_iff_le]<;>try with_reducible rfl)|apply Yi|apply Yj|apply Yk|apply Yl|apply Ym|apply Yn)
def needE (w : WarpA) (c : Int) : Int := if w.Ok then if 0 ≤ c ∧ c ≤ 10000000000 then if w.need c ≤ 10000000000 then 0 else 7 else 3 else 2
theorem need_mono {w : WarpA} (h : w.Ok) (c : Int) (i j : Nat) (hij : i ≤ j) (hj : j < 10000000001) (hi : decide (c ≤ clothV w.sl w.ch w.wh i) = true) : decide (c ≤ clothV w.sl w.ch w.wh j) = true := by
 have hs := h;obtain ⟨g1, g2, g3, g4⟩ := hs;have := YOk.mono (h.y (n := i) (s := w.sl) (c := w.ch) (a := w.wh) (by omega) (by omega) (by omega) (by omega) (by omega) (by omega) (by omega) (by omega)) (h.y (n := j) (s := w.sl) (c := w.ch) (a := w.wh) (by omega) (by omega) (by omega) (by omega) (by omega) (by omega) (by omega) (by omega)) (by omega) (by omega) (by omega) (by omega)
 simp only [decide_eq_true_eq] at hi ⊢;omega
theorem Need_ok (w : WarpA) (c : Int) : lim F 15 [w.av, iv c] = some (.tuple [iv (if needE w c = 0 then w.need c else 0), iv (needE w c)], []) := by
 have h0 := Warp_ok w;by_cases h : w.Ok
 ·have e : warpE w = 0 := if_pos h
  rw [e] at h0;have h1 := isLength_ok c;unfold needE;rw [if_pos h];by_cases hc : 0 ≤ c ∧ c ≤ 10000000000
  ·have h2 := search2 (fun n => decide (c ≤ clothV w.sl w.ch w.wh n)) 10000000001 43 w.av (.agg [iv c]) (by omega) (need_mono h c) fun i hi => need1_ok w h c i (by omega) (by omega)
   have h3 : w.need c ≤ 10000000001 := firstP_le _ _;change _ = some (iv (w.need c), []) at h2;rw [show ((10000000001 : Nat) : Int) = 10000000001 from rfl] at h2
   rw [if_pos hc];by_cases hn : w.need c ≤ 10000000000
   ·rw [if_pos hn, if_pos rfl]
    unfold WarpA.av at *;generalize w.need c = m at *;refine Yr (fn:=a15) (k:=2) (res:=[.tmp 4, .tmp 5]) rfl rfl rfl (by simp -implicitDefEqProofs(maxSteps:=9^7)(disch:=first|exact Yo rfl|omega|(simp only[go_sem]<;>omega)|fail)only[go_sem]) ?_
    try delta mvA
    try delta opA
    try delta tA
    simp -implicitDefEqProofs(maxSteps:=9^7)(disch:=first|exact Yo rfl|omega|(simp only[go_sem]<;>omega)|fail)only[go_sem]
    repeat(first|apply Ya|apply Yb|apply Yc|((first|apply Yd|apply Ye|apply Yf|apply Yg|apply Yh);simp -implicitDefEqProofs(maxSteps:=9^7)(disch:=first|exact Yo rfl|omega|(simp only[go_sem]<;>omega)|fail)only[go_sem, h0, h1, h2, hc, show ¬ (10000000000 : Int) < m by omega, gt_iff_lt]<;>try with_reducible rfl)|apply Yi|apply Yj|apply Yk|apply Yl|apply Ym|apply Yn)
   ·rw [if_neg hn, if_neg (by omega)]
    unfold WarpA.av at *;generalize w.need c = m at *;refine Yr (fn:=a15) (k:=2) (res:=[.tmp 4, .tmp 5]) rfl rfl rfl (by simp -implicitDefEqProofs(maxSteps:=9^7)(disch:=first|exact Yo rfl|omega|(simp only[go_sem]<;>omega)|fail)only[go_sem]) ?_
    try delta mvA
    try delta opA
    try delta tA
    simp -implicitDefEqProofs(maxSteps:=9^7)(disch:=first|exact Yo rfl|omega|(simp only[go_sem]<;>omega)|fail)only[go_sem]
    repeat(first|apply Ya|apply Yb|apply Yc|((first|apply Yd|apply Ye|apply Yf|apply Yg|apply Yh);simp -implicitDefEqProofs(maxSteps:=9^7)(disch:=first|exact Yo rfl|omega|(simp only[go_sem]<;>omega)|fail)only[go_sem, h0, h1, h2, hc, show (10000000000 : Int) < m by omega, gt_iff_lt]<;>try with_reducible rfl)|apply Yi|apply Yj|apply Yk|apply Yl|apply Ym|apply Yn)
  ·rw [if_neg hc, if_neg (by omega)]
   unfold WarpA.av at *;refine Yr (fn:=a15) (k:=2) (res:=[.tmp 4, .tmp 5]) rfl rfl rfl (by simp -implicitDefEqProofs(maxSteps:=9^7)(disch:=first|exact Yo rfl|omega|(simp only[go_sem]<;>omega)|fail)only[go_sem]) ?_
   try delta mvA
   try delta opA
   try delta tA
   simp -implicitDefEqProofs(maxSteps:=9^7)(disch:=first|exact Yo rfl|omega|(simp only[go_sem]<;>omega)|fail)only[go_sem]
   repeat(first|apply Ya|apply Yb|apply Yc|((first|apply Yd|apply Ye|apply Yf|apply Yg|apply Yh);simp -implicitDefEqProofs(maxSteps:=9^7)(disch:=first|exact Yo rfl|omega|(simp only[go_sem]<;>omega)|fail)only[go_sem, h0, h1, hc]<;>try with_reducible rfl)|apply Yi|apply Yj|apply Yk|apply Yl|apply Ym|apply Yn)
 ·have e : warpE w = 2 := if_neg h
  rw [e] at h0;unfold needE;rw [if_neg h, if_neg (by omega)]
  unfold WarpA.av at *;refine Yr (fn:=a15) (k:=2) (res:=[.tmp 4, .tmp 5]) rfl rfl rfl (by simp -implicitDefEqProofs(maxSteps:=9^7)(disch:=first|exact Yo rfl|omega|(simp only[go_sem]<;>omega)|fail)only[go_sem]) ?_
  try delta mvA
  try delta opA
  try delta tA
  simp -implicitDefEqProofs(maxSteps:=9^7)(disch:=first|exact Yo rfl|omega|(simp only[go_sem]<;>omega)|fail)only[go_sem]
  repeat(first|apply Ya|apply Yb|apply Yc|((first|apply Yd|apply Ye|apply Yf|apply Yg|apply Yh);simp -implicitDefEqProofs(maxSteps:=9^7)(disch:=first|exact Yo rfl|omega|(simp only[go_sem]<;>omega)|fail)only[go_sem, h0]<;>try with_reducible rfl)|apply Yi|apply Yj|apply Yk|apply Yl|apply Ym|apply Yn)
end Go.Abs.Beam
