/-
 Several texts: CA, CB, CS.
-/
import Derived.Test.YtckchbknbchknaaP1
import Derived.Test.YtckchbknbchknaaV0
import Derived.Test.YtckchbknbchknaaU1
set_option linter.all false
namespace Go.Abs
set_option maxRecDepth 10000
set_option maxHeartbeats 2000000
structure CardN where
 num : Nat
 row : Nat
 turned : Bool
def CardN.av (c : CardN) : AV := .agg [iv (c.num : Int), iv (c.row : Int), .bool c.turned]
structure BeltN where
 hk : Nat
 cards : List CardN
def BeltN.av (b : BeltN) : AV := .agg [iv (b.hk : Int), .list 3 (b.cards.map CardN.av)]
structure BeltN.Ok (b : BeltN) : Prop where
 h1 : 1 ≤ b.hk
 h24 : b.hk ≤ 24
 c1 : 1 ≤ b.cards.length
 c60 : b.cards.length ≤ 60
 lt : ∀ c ∈ b.cards, c.num ≤ 59 ∧ c.row < 2 ^ b.hk
theorem cwithin1_ok (lo hi n : Int) : lim F 42 [iv n, .iptr (.agg [iv lo]) 0, .iptr (.agg [iv hi]) 0] = some (.bool (decide (n < lo ∨ hi < n)), []) := by
 by_cases h1 : n < lo <;> by_cases h2 : hi < n
 all_goals
  refine Yr (fn:=a42) (k:=3) (res:=[.tmp 4]) rfl rfl rfl (by simp -implicitDefEqProofs(maxSteps:=9^7)(disch:=first|exact Yo rfl|omega|(simp only[go_sem]<;>omega)|fail)only[go_sem]) ?_
  try delta mvA
  try delta opA
  try delta tA
  simp -implicitDefEqProofs(maxSteps:=9^7)(disch:=first|exact Yo rfl|omega|(simp only[go_sem]<;>omega)|fail)only[go_sem]
  repeat(first|apply Ya|apply Yb|apply Yc|((first|apply Yd|apply Ye|apply Yf|apply Yg|apply Yh);simp -implicitDefEqProofs(maxSteps:=9^7)(disch:=first|exact Yo rfl|omega|(simp only[go_sem]<;>omega)|fail)only[go_sem, h1, h2]<;>try with_reducible rfl)|apply Yi|apply Yj|apply Yk|apply Yl|apply Ym|apply Yn)
theorem cwithin_ok (lo hi : Int) (l : List Int) (hl : l.length < 1000000000) : lim F 28 [iv lo, iv hi, .list 1 (l.map fun n => iv n)] = some (.bool (l.all fun n => decide (lo ≤ n ∧ n ≤ hi)), []) := by
 have h := contains_ints l (fun n => decide (n < lo ∨ hi < n)) 42 (.agg [iv lo]) (.agg [iv hi]) hl (fun n _ => cwithin1_ok lo hi n)
 refine Yr (fn:=a28) (k:=3) (res:=[.tmp 6]) rfl rfl rfl (by simp -implicitDefEqProofs(maxSteps:=9^7)(disch:=first|exact Yo rfl|omega|(simp only[go_sem]<;>omega)|fail)only[go_sem]) ?_
 try delta mvA
 try delta opA
 try delta tA
 simp -implicitDefEqProofs(maxSteps:=9^7)(disch:=first|exact Yo rfl|omega|(simp only[go_sem]<;>omega)|fail)only[go_sem]
 repeat(first|apply Ya|apply Yb|apply Yc|((first|apply Yd|apply Ye|apply Yf|apply Yg|apply Yh);simp -implicitDefEqProofs(maxSteps:=9^7)(disch:=first|exact Yo rfl|omega|(simp only[go_sem]<;>omega)|fail)only[go_sem, h]<;>try with_reducible rfl)|apply Yi|apply Yj|apply Yk|apply Yl|apply Ym|apply Yn)
 simp only [Option.some.injEq, Prod.mk.injEq, AV.bool.injEq, and_true];rw [List.any_eq_not_all_not, Bool.not_not]
 congr 1
 funext n;by_cases h1 : n < lo <;> by_cases h2 : hi < n <;> simp [h1, h2] <;> omega
theorem cwithin_one (lo hi n : Int) : lim F 28 [iv lo, iv hi, .list 1 [iv n]] = some (.bool (decide (lo ≤ n ∧ n ≤ hi)), []) := by
 have h := cwithin_ok lo hi [n] (by simp)
 simpa using h
theorem isValid_ok (n : Int) : lim F 39 [iv n] = some (.bool (decide (1 ≤ n ∧ n ≤ 24)), []) := by
 have h := cwithin_one 1 24 n;refine Yr (fn:=a39) (k:=1) (res:=[.tmp 2]) rfl rfl rfl (by simp -implicitDefEqProofs(maxSteps:=9^7)(disch:=first|exact Yo rfl|omega|(simp only[go_sem]<;>omega)|fail)only[go_sem]) ?_
 try delta mvA
 try delta opA
 try delta tA
 simp -implicitDefEqProofs(maxSteps:=9^7)(disch:=first|exact Yo rfl|omega|(simp only[go_sem]<;>omega)|fail)only[go_sem]
 repeat(first|apply Ya|apply Yb|apply Yc|((first|apply Yd|apply Ye|apply Yf|apply Yg|apply Yh);simp -implicitDefEqProofs(maxSteps:=9^7)(disch:=first|exact Yo rfl|omega|(simp only[go_sem]<;>omega)|fail)only[go_sem, h]<;>try with_reducible rfl)|apply Yi|apply Yj|apply Yk|apply Yl|apply Ym|apply Yn)
theorem areRows_ok (hk : Nat) (h24 : hk ≤ 24) (l : List Int) (hl : l.length < 1000000000) : lim F 48 [iv (hk : Int), .list 1 (l.map fun n => iv n)] = some (.bool (l.all fun n => decide (0 ≤ n ∧ n ≤ ((2 ^ hk : Nat) : Int) - 1)), []) := by
 have s1 := w_shl1 hk (by omega)
 have p1 : 2 ^ hk ≤ 2 ^ 24 := Nat.pow_le_pow_right (by omega) (by omega)
 have p2 : 0 < 2 ^ hk := Nat.pow_pos (by omega)
 have h := cwithin_ok 0 (((2 ^ hk : Nat) : Int) - 1) l hl;generalize hm : 2 ^ hk = m at *;refine Yr (fn:=a48) (k:=2) (res:=[.tmp 4]) rfl rfl rfl (by simp -implicitDefEqProofs(maxSteps:=9^7)(disch:=first|exact Yo rfl|omega|(simp only[go_sem]<;>omega)|fail)only[go_sem]) ?_
 try delta mvA
 try delta opA
 try delta tA
 simp -implicitDefEqProofs(maxSteps:=9^7)(disch:=first|exact Yo rfl|omega|(simp only[go_sem]<;>omega)|fail)only[go_sem]
 repeat(first|apply Ya|apply Yb|apply Yc|((first|apply Yd|apply Ye|apply Yf|apply Yg|apply Yh);simp -implicitDefEqProofs(maxSteps:=9^7)(disch:=first|exact Yo rfl|omega|(simp only[go_sem]<;>omega)|fail)only[go_sem, h, s1, Int.toNat_natCast]<;>try with_reducible rfl)|apply Yi|apply Yj|apply Yk|apply Yl|apply Ym|apply Yn)
theorem areRows_one (hk : Nat) (h24 : hk ≤ 24) (n : Int) : lim F 48 [iv (hk : Int), .list 1 [iv n]] = some (.bool (decide (0 ≤ n ∧ n ≤ ((2 ^ hk : Nat) : Int) - 1)), []) := by
 have h := areRows_ok hk h24 [n] (by simp)
 simpa using h
theorem areCards1_ok (hk : Nat) (h24 : hk ≤ 24) (c : CardN) (hc : c.num ≤ 59 ∧ c.row < 2 ^ hk) : lim F 47 [c.av, .iptr (.agg [iv (hk : Int)]) 0] = some (.bool false, []) := by
 have w1 := cwithin_one (-1) 59 (c.num : Int);have w2 := areRows_one hk h24 (c.row : Int);rw [decide_eq_true (by omega)] at w1 w2
 unfold CardN.av;generalize (c.num : Int) = a at *;generalize (c.row : Int) = r at *;generalize c.turned = t at *;refine Yr (fn:=a47) (k:=2) (res:=[.tmp 3]) rfl rfl rfl (by simp -implicitDefEqProofs(maxSteps:=9^7)(disch:=first|exact Yo rfl|omega|(simp only[go_sem]<;>omega)|fail)only[go_sem]) ?_
 try delta mvA
 try delta opA
 try delta tA
 simp -implicitDefEqProofs(maxSteps:=9^7)(disch:=first|exact Yo rfl|omega|(simp only[go_sem]<;>omega)|fail)only[go_sem]
 repeat(first|apply Ya|apply Yb|apply Yc|((first|apply Yd|apply Ye|apply Yf|apply Yg|apply Yh);simp -implicitDefEqProofs(maxSteps:=9^7)(disch:=first|exact Yo rfl|omega|(simp only[go_sem]<;>omega)|fail)only[go_sem, w1, w2]<;>try with_reducible rfl)|apply Yi|apply Yj|apply Yk|apply Yl|apply Ym|apply Yn)
theorem contains_cards (l : List CardN) (f : Nat) (x : AV) (hl : l.length < 1000000000) (hp : ∀ c ∈ l, lim F f [c.av, .iptr x 0] = some (.bool false, [])) :
  lim F 49 [.list 3 (l.map CardN.av), .func f [.iptr x 0]] = some (.bool false, []) := by
 have h : lim F 53 [.list 3 (l.map CardN.av), .func f [.iptr x 0]] = some (iv (-1), []) := by
  refine Yr (fn:=a53) (k:=2) (res:=[.tmp 4]) rfl rfl rfl (by simp -implicitDefEqProofs(maxSteps:=9^7)(disch:=first|exact Yo rfl|omega|(simp only[go_sem]<;>omega)|fail)only[go_sem]) ?_
  try delta mvA
  try delta opA
  try delta tA
  simp -implicitDefEqProofs(maxSteps:=9^7)(disch:=first|exact Yo rfl|omega|(simp only[go_sem]<;>omega)|fail)only[go_sem]
  repeat(first|apply Ya|apply Yb|apply Yc|((first|apply Yd|apply Ye|apply Yf|apply Yg|apply Yh);simp -implicitDefEqProofs(maxSteps:=9^7)(disch:=first|exact Yo rfl|omega|(simp only[go_sem]<;>omega)|fail)only[go_sem]<;>try with_reducible rfl)|apply Yi|apply Yj|apply Yk|apply Yl|apply Ym|apply Yn)
  apply Yt l.length (fun i => ⟨[(0, .list 3 (l.map CardN.av)), (1, .func f [.iptr x 0]), (7, iv l.length), (8, iv i)], [], [], 10000000⟩) (fun _ => True)
  ·simp -implicitDefEqProofs(maxSteps:=9^7)(disch:=first|exact Yo rfl|omega|(simp only[go_sem]<;>omega)|fail)only[go_sem, norm_eq, Ok.some]
   rfl
  ·trivial
  intro i hi _;by_cases h : i < l.length
  ·have hc := hp l[i] (List.getElem_mem h)
   unfold CardN.av at hc;repeat(first|apply Ya|apply Yb|apply Yc|((first|apply Yd|apply Ye|apply Yf|apply Yg|apply Yh);simp -implicitDefEqProofs(maxSteps:=9^7)(disch:=first|exact Yo rfl|omega|(simp only[go_sem]<;>omega)|fail)only[go_sem, CardN.av.eq_1, h, List.getElem?_map, List.getElem?_eq_getElem h, Option.map_some, hc, Int.ofNat_lt]<;>try with_reducible rfl)|apply Yi|apply Yj|apply Yk|apply Yl|apply Ym|apply Yn)
   apply Ys
   ·simp -implicitDefEqProofs(maxSteps:=9^7)(disch:=first|exact Yo rfl|omega|(simp only[go_sem]<;>omega)|fail)only[go_sem, norm_eq, Ok.some]; with_reducible rfl
   exact ⟨h, by simp, trivial⟩
  ·repeat(first|apply Ya|apply Yb|apply Yc|((first|apply Yd|apply Ye|apply Yf|apply Yg|apply Yh);simp -implicitDefEqProofs(maxSteps:=9^7)(disch:=first|exact Yo rfl|omega|(simp only[go_sem]<;>omega)|fail)only[go_sem, h, Int.ofNat_lt]<;>try with_reducible rfl)|apply Yi|apply Yj|apply Yk|apply Yl|apply Ym|apply Yn)
 refine Yr (fn:=a49) (k:=2) (res:=[.tmp 4]) rfl rfl rfl (by simp -implicitDefEqProofs(maxSteps:=9^7)(disch:=first|exact Yo rfl|omega|(simp only[go_sem]<;>omega)|fail)only[go_sem]) ?_
 try delta mvA
 try delta opA
 try delta tA
 simp -implicitDefEqProofs(maxSteps:=9^7)(disch:=first|exact Yo rfl|omega|(simp only[go_sem]<;>omega)|fail)only[go_sem]
 repeat(first|apply Ya|apply Yb|apply Yc|((first|apply Yd|apply Ye|apply Yf|apply Yg|apply Yh);simp -implicitDefEqProofs(maxSteps:=9^7)(disch:=first|exact Yo rfl|omega|(simp only[go_sem]<;>omega)|fail)only[go_sem, h]<;>try with_reducible rfl)|apply Yi|apply Yj|apply Yk|apply Yl|apply Ym|apply Yn)
theorem areCards_ok (b : BeltN) (hb : b.Ok) : lim F 40 [iv (b.hk : Int), .list 3 (b.cards.map CardN.av)] = some (.bool true, []) := by
 have hc := contains_cards b.cards 47 (.agg [iv (b.hk : Int)]) (by have := hb.c60; omega) (fun c hc => areCards1_ok b.hk hb.h24 c (hb.lt c hc))
 have h1 := hb.c1;have hln : (b.cards.map CardN.av).length = b.cards.length := by simp
 generalize b.cards.map CardN.av = es at *;refine Yr (fn:=a40) (k:=2) (res:=[.tmp 4]) rfl rfl rfl (by simp -implicitDefEqProofs(maxSteps:=9^7)(disch:=first|exact Yo rfl|omega|(simp only[go_sem]<;>omega)|fail)only[go_sem]) ?_
 try delta mvA
 try delta opA
 try delta tA
 simp -implicitDefEqProofs(maxSteps:=9^7)(disch:=first|exact Yo rfl|omega|(simp only[go_sem]<;>omega)|fail)only[go_sem]
 repeat(first|apply Ya|apply Yb|apply Yc|((first|apply Yd|apply Ye|apply Yf|apply Yg|apply Yh);simp -implicitDefEqProofs(maxSteps:=9^7)(disch:=first|exact Yo rfl|omega|(simp only[go_sem]<;>omega)|fail)only[go_sem, hc, hln, show (0 : Int) < b.cards.length by omega]<;>try with_reducible rfl)|apply Yi|apply Yj|apply Yk|apply Yl|apply Ym|apply Yn)
theorem open_ok (b : BeltN) (hb : b.Ok) : lim F 26 [b.av] = some (.tuple [.agg [iv (b.hk : Int), .list 3 (b.cards.map CardN.av), iv (b.hk : Int)], iv 0], []) := by
 have h0 := isValid_ok (b.hk : Int);have h1 := areCards_ok b hb;have g1 := hb.h1;have g2 := hb.h24;have g3 := hb.c60;rw [decide_eq_true (by omega)] at h0
 have hln : (b.cards.map CardN.av).length = b.cards.length := by simp
 unfold BeltN.av;generalize b.cards.map CardN.av = es at *;refine Yr (fn:=a26) (k:=1) (res:=[.cell 2 3 true, .tmp 3]) rfl rfl rfl (by simp -implicitDefEqProofs(maxSteps:=9^7)(disch:=first|exact Yo rfl|omega|(simp only[go_sem]<;>omega)|fail)only[go_sem]) ?_
 try delta mvA
 try delta opA
 try delta tA
 simp -implicitDefEqProofs(maxSteps:=9^7)(disch:=first|exact Yo rfl|omega|(simp only[go_sem]<;>omega)|fail)only[go_sem]
 repeat(first|apply Ya|apply Yb|apply Yc|((first|apply Yd|apply Ye|apply Yf|apply Yg|apply Yh);simp -implicitDefEqProofs(maxSteps:=9^7)(disch:=first|exact Yo rfl|omega|(simp only[go_sem]<;>omega)|fail)only[go_sem, h0, h1, hln, show ¬ (60 : Int) < b.cards.length by omega]<;>try with_reducible rfl)|apply Yi|apply Yj|apply Yk|apply Yl|apply Ym|apply Yn)
end Go.Abs
set_option linter.all false
namespace Go.Abs
set_option maxRecDepth 10000
set_option maxHeartbeats 2000000
def rowAt (b : BeltN) (i : Nat) : Nat := (b.cards[i]?.map (·.row)).getD 0
def posW (n first : Nat) (steps : List Nat) : Nat → Nat
 | 0 => first
 | i + 1 => (posW n first steps i + steps[i]?.getD 0) % n
def wovenW (b : BeltN) (first : Nat) (steps : List Nat) : List Nat := (List.range steps.length).map fun i => rowAt b (posW b.cards.length first steps i)
def punchN (d : DesN) : BeltN := ⟨d.hk, d.rows.zipIdx.map fun p => ⟨p.2, p.1, false⟩⟩
end Go.Abs
set_option linter.all false
namespace Go.Abs
set_option maxRecDepth 10000
set_option maxHeartbeats 4000000
abbrev ByteB := Fin 256
def bytesV (l : List ByteB) : List AV := l.map fun r => .int .u8 (r.1 : Int)
@[simp] theorem bytes_len (l : List ByteB) : (bytesV l).length = l.length := by simp [bytesV]
structure LoomB where
 hooks : ByteB
 warps : List ByteB
 rows : List WordB
 cards : List ByteB
def LoomB.av (x : LoomB) : AV := .agg [.int .u8 (x.hooks.1 : Int), .list 1 (bytesV x.warps), .list 1 (wordsV x.rows), .list 1 (bytesV x.cards)]
def asrc (l : List WordB) (i : Nat) : Nat := (l[i]?.map fun r => r.1).getD 21
def armN (x : LoomB) : DesN := ⟨1 + x.hooks.1 % 12, (List.range (max 1 (min x.rows.length 10))).map fun i => asrc x.rows i % 2 ^ (1 + x.hooks.1 % 12)⟩
theorem armInts_ok (es : List AV) (hp : es.all AV.plain = true) (h : es.length ≤ 1000) : lim F 7 [.list 1 es] = some (.own 1 es, []) := by
 have htk : es.take es.length = es := List.take_of_length_le (by omega)
 refine Yr (fn:=a7) (k:=1) (res:=[.tmp 2]) rfl rfl rfl (by simp -implicitDefEqProofs(maxSteps:=9^7)(disch:=first|exact Yo rfl|omega|(simp only[go_sem]<;>omega)|fail)only[go_sem]) ?_
 try delta mvA
 try delta opA
 try delta tA
 simp -implicitDefEqProofs(maxSteps:=9^7)(disch:=first|exact Yo rfl|omega|(simp only[go_sem]<;>omega)|fail)only[go_sem]
 repeat(first|apply Ya|apply Yb|apply Yc|((first|apply Yd|apply Ye|apply Yf|apply Yg|apply Yh);simp -implicitDefEqProofs(maxSteps:=9^7)(disch:=first|exact Yo rfl|omega|(simp only[go_sem]<;>omega)|fail)only[go_sem, htk, hp]<;>try with_reducible rfl)|apply Yi|apply Yj|apply Yk|apply Yl|apply Ym|apply Yn)
end Go.Abs
