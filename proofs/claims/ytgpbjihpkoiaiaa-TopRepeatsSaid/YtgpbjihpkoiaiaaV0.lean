/-
 Several texts: M1, M3, M4, KL, M2, M5, P2, R1, P3, P4, V0.
-/
import Derived.Test.YtgpbjihpkoiaiaaP1
import Derived.Test.YtgpbjihpkoiaiaaFns
import Derived.Test.YtgpbjihpkoiaiaaK
import Derived.Test.YtgpbjihpkoiaiaaEvI
set_option linter.all false
namespace Go.Abs
set_option maxRecDepth 10000
def gb (l : List Bool) (i : Nat) : Bool := l.getD (i % l.length) false
def begs (l : List Bool) (i : Nat) : Bool := gb l i != gb l (i + l.length - 1)
def lenT (l : List Bool) (i : Nat) : Nat := 1 + (List.range l.length).findIdx fun k => gb l (i + 1 + k) != gb l i
theorem gb_add (l : List Bool) (i : Nat) : gb l (i + l.length) = gb l i := by
 unfold gb; rw [Nat.add_mod_right]
structure LenIs (l : List Bool) (i n : Nat) : Prop where
 pos : 1 ≤ n
 lt : n < l.length
 same : ∀ k, k < n → gb l (i + k) = gb l i
 other : gb l (i + n) ≠ gb l i
theorem LenIs.eq {l : List Bool} {i n m : Nat} (h : LenIs l i n) (h' : LenIs l i m) : n = m := by
 rcases Nat.lt_trichotomy n m with h1 | h1 | h1
 ·exact absurd (h'.same n h1) h.other
 ·exact h1
 ·exact absurd (h.same m h1) h'.other
theorem LenIs.begs {l : List Bool} {i n : Nat} (h : LenIs l i n) : ∀ k, 1 ≤ k → k < n → Go.Abs.begs l (i + k) = false := fun k h1 h2 => by
 have a := h.same k h2;have b := h.same (k - 1) (by omega)
 have e : gb l (i + k + l.length - 1) = gb l (i + (k - 1)) := by
  rw [show i + k + l.length - 1 = i + (k - 1) + l.length by omega, gb_add]
 unfold Go.Abs.begs;rw [e, a, b]; simp
theorem LenIs.end {l : List Bool} {i n : Nat} (h : LenIs l i n) : Go.Abs.begs l (i + n) = true := by
 have b := h.same (n - 1) (by have := h.pos; omega)
 have e : gb l (i + n + l.length - 1) = gb l (i + (n - 1)) := by
  have := h.pos;rw [show i + n + l.length - 1 = i + (n - 1) + l.length by omega, gb_add]
 unfold Go.Abs.begs;rw [e, b];simpa using h.other
structure RunT where
 first : Nat
 len : Nat
 up : Bool
def RunT.av (x : RunT) : AV := .agg [iv (x.first : Int), iv (x.len : Int), .bool x.up]
def runAt (l : List Bool) (i : Nat) : RunT := ⟨i, lenT l i, gb l i⟩
def runsTo (l : List Bool) (i : Nat) : List RunT := ((List.range i).filter (begs l)).map (runAt l)
def runsFrom (l : List Bool) (i : Nat) : List RunT := ((List.range' i (l.length - i)).filter (begs l)).map (runAt l)
def anyTo (l : List Bool) (i : Nat) : Bool := (List.range i).any (begs l)
def lastT (l : List Bool) : List RunT := if anyTo l l.length then [] else [⟨0, 1000, gb l 0⟩]
def runsT (l : List Bool) : List RunT := runsTo l l.length ++ lastT l
end Go.Abs
set_option linter.all false
namespace Go.Abs
set_option maxRecDepth 10000
def rowTo (g : Nat → Bool) : Nat → Nat
 | 0 => 0
 | n + 1 => rowTo g n ||| (if g n then 2 ^ n else 0)
theorem row_eq {a b n : Nat} (ha : a < 2 ^ n) (hb : b < 2 ^ n) (h : ∀ j, j < n → a.testBit j = b.testBit j) : a = b := by
 apply Nat.eq_of_testBit_eq;intro j;by_cases hj : j < n
 ·exact h j hj
 ·have hp : 2 ^ n ≤ 2 ^ j := Nat.pow_le_pow_right (by omega) (by omega)
  rw [Nat.testBit_lt_two_pow (Nat.lt_of_lt_of_le ha hp), Nat.testBit_lt_two_pow (Nat.lt_of_lt_of_le hb hp)]
def rowOf (l : List Bool) : Nat := l.foldr (fun b a => a * 2 + if b then 1 else 0) 0
end Go.Abs
set_option linter.all false
namespace Go.Abs
set_option maxRecDepth 10000
def perAt (n : Nat) (P : Nat → Bool) (by' : Nat) : Bool := decide (1 ≤ by') && decide (n % by' = 0) && P by'
def perT (n : Nat) (P : Nat → Bool) : Nat := ((List.range n).find? (perAt n P)).getD n
theorem perT_at {n : Nat} {P : Nat → Bool} {i : Nat} (h : i < n) (hi : perAt n P i = true) (hn : ∀ j, j < i → perAt n P j = false) : perT n P = i := by
 unfold perT;rw [show (List.range n).find? (perAt n P) = some i from ?_]
 ·rfl
 rw [List.find?_eq_some_iff_getElem];refine ⟨hi, i, by simpa using h, by simp, fun j hj => ?_⟩
 have := hn j hj;simpa using this
theorem perT_no {n : Nat} {P : Nat → Bool} (hn : ∀ j, j < n → perAt n P j = false) : perT n P = n := by
 unfold perT;rw [show (List.range n).find? (perAt n P) = none from ?_]
 ·rfl
 rw [List.find?_eq_none];intro j hj;rw [hn j (List.mem_range.1 hj)]; simp
theorem perT_in {n : Nat} {P : Nat → Bool} (h : 1 ≤ n) : 1 ≤ perT n P ∧ perT n P ≤ n := by
 by_cases hx : ∀ j, j < n → perAt n P j = false
 ·rw [perT_no hx]; omega
 ·unfold perT
  cases hf : (List.range n).find? (perAt n P) with
  | none => simp; omega
  | some k =>
   have h1 := List.find?_some hf;have h2 := List.mem_range.1 (List.mem_of_find?_eq_some hf);unfold perAt at h1;simp only [Bool.and_eq_true, decide_eq_true_eq] at h1;simp; omega
theorem find_congr {α : Type} {l : List α} {p q : α → Bool} (h : ∀ x ∈ l, p x = q x) : l.find? p = l.find? q := by
 induction l with
 | nil => rfl
 | cons a l ih => rw [List.find?_cons, List.find?_cons, h a (by simp), ih fun x hx => h x (by simp [hx])]
theorem perT_congr {n : Nat} {P Q : Nat → Bool} (h : ∀ k, 1 ≤ k → k < n → n % k = 0 → P k = Q k) : perT n P = perT n Q := by
 unfold perT
 congr 1
 apply find_congr;intro k hk;have hk := List.mem_range.1 hk;unfold perAt;by_cases h1 : 1 ≤ k
 ·by_cases h2 : n % k = 0
  ·rw [h k h1 hk h2]
  ·rw [decide_eq_false h2]; simp
 ·rw [decide_eq_false h1]; simp
theorem period_iff {α : Type} {f : Nat → α} {n k : Nat} (hk : 1 ≤ k) (hn : k < n) : (∀ i, i < n - k → f (i + k) = f i) ↔ ∀ i, i < n → f i = f (i % k) := by
 constructor
 ·intro h i
  induction i using Nat.strongRecOn with
  | ind i ih =>
   intro hi;rcases Nat.lt_or_ge i k with h1 | h1
   ·rw [Nat.mod_eq_of_lt h1]
   ·have := h (i - k) (by omega)
    rw [show i - k + k = i by omega] at this
    rw [this, ih (i - k) (by omega) (by omega), Nat.mod_eq_sub_mod h1]
 ·intro h i hi
  rw [h (i + k) (by omega), h i (by omega), Nat.add_mod_right]
end Go.Abs
set_option linter.all false
namespace Go.Abs
set_option maxRecDepth 10000
set_option maxHeartbeats 8000000
structure FloatT where
 pick : Int
 hook : Int
 len : Int
 up : Bool
def FloatT.av (f : FloatT) : AV := .agg [iv f.pick, iv f.hook, iv f.len, .bool f.up]
def mxStep (b : Bool) (m : Int) (f : FloatT) : Int := if f.up = b then max m f.len else m
def mxF (b : Bool) (l : List FloatT) : Int := l.foldl (mxStep b) 0
def keyI : AV → Int
 | .int _ n => n
 | _ => 0
def e1L : AV × AV := (iv 1, .agg [.ptr 128 0 0, .ptr 128 0 1])
def e2L : AV × AV := (iv 2, .agg [.ptr 128 0 3, .ptr 128 0 2])
end Go.Abs
set_option linter.all false
namespace Go.Abs
set_option maxRecDepth 10000
def lengthT (l : List Bool) (a : Nat) : Nat := if begs l a then lenT l a else if anyTo l l.length then 0 else if a = 0 then 1000 else 0
def refTo (l : List Bool) (b : Int) (k : Nat) : List RunT := ((List.range k).filter fun k => decide (lengthT l k ≠ 0) && decide (b < lengthT l k)).map fun k => ⟨k, lengthT l k, gb l k⟩
def floatW (i : Nat) (x : RunT) : FloatT := ⟨i, x.first, x.len, x.up⟩
def floatH (i : Nat) (x : RunT) : FloatT := ⟨x.first, i, x.len, x.up⟩
def pickR (d : DesN) (i : Nat) : List Bool := (List.range d.hk).map fun h => (d.rows.getD i 0).testBit h
def hookR (d : DesN) (h : Nat) : List Bool := d.rows.map fun r => r.testBit h
theorem pickR_len (d : DesN) (i : Nat) : (pickR d i).length = d.hk := by simp [pickR]
theorem hookR_len (d : DesN) (i : Nat) : (hookR d i).length = d.rows.length := by simp [hookR]
def flTo (R : Nat → List Bool) (mk : Nat → RunT → FloatT) (i : Nat) : List FloatT := (List.range i).flatMap fun i => (runsT (R i)).map (mk i)
def flFrom (R : Nat → List Bool) (mk : Nat → RunT → FloatT) (i n : Nat) : List FloatT := (List.range' i (n - i)).flatMap fun i => (runsT (R i)).map (mk i)
def weftF (d : DesN) : List FloatT := flTo (pickR d) floatW d.rows.length
def warpF (d : DesN) : List FloatT := flTo (hookR d) floatH d.hk
end Go.Abs
set_option linter.all false
namespace Go.Abs
set_option maxRecDepth 10000
def sameP (d : DesN) (k : Nat) : Bool := decide (d.rows.drop k = d.rows.take (d.rows.length - k))
def sameRow (hk k r : Nat) : Bool := decide (r >>> k = r &&& (2 ^ (hk - k) - 1))
def sameH (d : DesN) (k : Nat) : Bool := d.rows.all (sameRow d.hk k)
def leastP (d : DesN) : Nat := perT d.rows.length (sameP d)
def leastH (d : DesN) : Nat := perT d.hk (sameH d)
def wholeR (R : Nat → List Bool) (n k : Nat) : Bool := (List.range n).all fun i => decide (R i = R (i % k))
theorem wholeR_iff {R : Nat → List Bool} {n k : Nat} : wholeR R n k = true ↔ ∀ i, i < n → R i = R (i % k) := by
 unfold wholeR;simp
theorem whole_self (R : Nat → List Bool) (n : Nat) : wholeR R n n = true := wholeR_iff.2 fun i hi => by rw [Nat.mod_eq_of_lt hi]
theorem rows_get {d : DesN} {i : Nat} (h : i < d.rows.length) : d.rows.getD i 0 = d.rows[i] := by
 rw [List.getD_eq_getElem?_getD, List.getElem?_eq_getElem h]; rfl
theorem pickR_get {d : DesN} {i h : Nat} (hh : h < d.hk) : (pickR d i)[h]'(by rw [pickR_len]; exact hh) = (d.rows.getD i 0).testBit h := by
 simp [pickR]
theorem hookR_get {d : DesN} {i h : Nat} (hi : i < d.rows.length) : (hookR d h)[i]'(by rw [hookR_len]; exact hi) = (d.rows.getD i 0).testBit h := by
 simp [hookR, List.getElem?_eq_getElem hi]
theorem pickR_inj {d : DesN} (hd : d.Ok) {i j : Nat} (hi : i < d.rows.length) (hj : j < d.rows.length) : pickR d i = pickR d j ↔ d.rows[i] = d.rows[j] := by
 constructor
 ·intro h
  have h1 := hd.lt _ (List.getElem_mem hi);have h2 := hd.lt _ (List.getElem_mem hj);refine row_eq h1 h2 fun k hk => ?_
  have e1 := pickR_get (d := d) (i := i) hk;have e2 := pickR_get (d := d) (i := j) hk;rw [rows_get hi] at e1;rw [rows_get hj] at e2;rw [← e1, ← e2]
  congr 1
 ·intro h
  unfold pickR;rw [rows_get hi, rows_get hj, h]
theorem sameP_iff {d : DesN} (hd : d.Ok) {k : Nat} (h1 : 1 ≤ k) (hk : k < d.rows.length) : sameP d k = wholeR (pickR d) d.rows.length k := by
 have key : sameP d k = true ↔ wholeR (pickR d) d.rows.length k = true := by
  rw [wholeR_iff, ← period_iff h1 hk];unfold sameP;rw [decide_eq_true_eq];constructor
  ·intro h i hi
   have e : (d.rows.drop k)[i]? = (d.rows.take (d.rows.length - k))[i]? := by rw [h]
   rw [List.getElem?_drop, List.getElem?_take, if_pos hi, List.getElem?_eq_getElem (by omega), List.getElem?_eq_getElem (by omega), Option.some.injEq] at e
   rw [pickR_inj hd (by omega) (by omega), ← e]
   congr 1; omega
  ·intro h
   apply List.ext_getElem
   ·simp
   ·intro i hi1 hi2
    rw [List.getElem_drop, List.getElem_take];simp at hi1;have := (pickR_inj hd (i := i + k) (j := i) (by omega) (by omega)).1 (h i (by omega))
    rw [← this]
    congr 1; omega
 cases h : sameP d k <;> cases h' : wholeR (pickR d) d.rows.length k <;> simp_all
theorem leastP_eq {d : DesN} (hd : d.Ok) : leastP d = perT d.rows.length (wholeR (pickR d) d.rows.length) :=
 perT_congr fun k h1 h2 _ => sameP_iff hd h1 h2
theorem sameRow_iff {hk k r : Nat} (hr : r < 2 ^ hk) (hlt : k < hk) : sameRow hk k r = true ↔ ∀ j, j < hk - k → r.testBit (j + k) = r.testBit j := by
 unfold sameRow;rw [decide_eq_true_eq];constructor
 ·intro h j hj
  have := congrArg (fun x => Nat.testBit x j) h
  simp only [Nat.testBit_shiftRight, Nat.testBit_and, Nat.testBit_two_pow_sub_one, decide_eq_true hj, Bool.and_true] at this;rw [Nat.add_comm]; exact this
 ·intro h
  apply Nat.eq_of_testBit_eq;intro j;rw [Nat.testBit_shiftRight, Nat.testBit_and, Nat.testBit_two_pow_sub_one];by_cases hj : j < hk - k
  ·rw [decide_eq_true hj, Bool.and_true, Nat.add_comm]; exact h j hj
  ·rw [decide_eq_false hj, Bool.and_false]
   have hp : 2 ^ hk ≤ 2 ^ (k + j) := Nat.pow_le_pow_right (by omega) (by omega)
   exact Nat.testBit_lt_two_pow (Nat.lt_of_lt_of_le hr hp)
theorem sameH_iff {d : DesN} (hd : d.Ok) {k : Nat} (h1 : 1 ≤ k) (hk : k < d.hk) : sameH d k = wholeR (hookR d) d.hk k := by
 have key : sameH d k = true ↔ wholeR (hookR d) d.hk k = true := by
  rw [wholeR_iff, ← period_iff h1 hk];unfold sameH;rw [List.all_eq_true];constructor
  ·intro h j hj
   unfold hookR;exact List.map_congr_left fun r hr => (sameRow_iff (hd.lt r hr) hk).1 (h r hr) j hj
  ·intro h r hr
   refine (sameRow_iff (hd.lt r hr) hk).2 fun j hj => ?_
   have := h j hj;unfold hookR at this;exact List.map_inj_left.1 this r hr
 cases h : sameH d k <;> cases h' : wholeR (hookR d) d.hk k <;> simp_all
theorem leastH_eq {d : DesN} (hd : d.Ok) : leastH d = perT d.hk (wholeR (hookR d) d.hk) :=
 perT_congr fun k h1 h2 _ => sameH_iff hd h1 h2
end Go.Abs
set_option linter.all false
namespace Go.Abs
set_option maxRecDepth 10000
set_option maxHeartbeats 2000000
def largeT (l : List DesA) : Bool := l.any fun d => decide (70 < d.rows.length)
def likeT (a b : DesA) : Bool := decide (a.hk = b.hk) && decide (a.rows.length = b.rows.length)
def sameT (a b : DesA) : Bool := decide (a.hk = b.hk) && decide (a.rows = b.rows)
end Go.Abs
set_option linter.all false
namespace Go.Abs
set_option maxRecDepth 10000
set_option maxHeartbeats 2000000
def ringV (l : List Bool) : AV := .list 1 (l.map fun b => .bool b)
def tabV (t : List (List Bool)) : List AV := t.map ringV
def ptsT (r n : Nat) : List Bool := (List.range n).map fun h => r.testBit h
def tabN (d : DesN) (k : Nat) : List (List Bool) := (d.rows.take k).map fun r => ptsT r d.hk
def overT (t : List (List Bool)) (n : Nat) : List (List Bool) := (List.range n).map fun h => t.map fun l => l.getD h false
def wholeT (t : List (List Bool)) (k : Nat) : Bool := decide (t.length % k = 0) && wholeR (fun i => t.getD i []) t.length k
end Go.Abs
set_option linter.all false
namespace Go.Abs
set_option maxRecDepth 10000
set_option maxHeartbeats 2000000
def runV (x : RunT) : List AV := [x.av]
end Go.Abs
set_option linter.all false
namespace Go.Abs
set_option maxRecDepth 10000
set_option maxHeartbeats 2000000
abbrev natsV (l : List Nat) : List AV := l.map fun n : Nat => iv (n : Int)
end Go.Abs
set_option linter.all false
namespace Go.Abs
set_option maxRecDepth 10000
set_option maxHeartbeats 4000000
def atN (d : DesN) (p h : Nat) : Bool := (d.rows.getD (p % d.rows.length) 0).testBit (h % d.hk)
theorem atN_pick {d : DesN} (hd : d.Ok) {p h : Nat} (hp : p < d.rows.length) : gb (pickR d p) h = atN d p h := by
 unfold gb atN;have := hd.h1;have hm := Nat.mod_lt h (show 0 < d.hk by omega)
 rw [pickR_len, List.getD_eq_getElem?_getD, List.getElem?_eq_getElem (by rw [pickR_len]; exact hm), pickR_get hm, Nat.mod_eq_of_lt hp]; rfl
theorem atN_hook {d : DesN} (hd : d.Ok) {p h : Nat} (hh : h < d.hk) : gb (hookR d h) p = atN d p h := by
 unfold gb atN;have := hd.r1;have hm := Nat.mod_lt p (show 0 < d.rows.length by omega)
 rw [hookR_len, List.getD_eq_getElem?_getD, List.getElem?_eq_getElem (by rw [hookR_len]; exact hm), hookR_get hm, Nat.mod_eq_of_lt hh]; rfl
def desV (d : DesN) : AV := .agg [iv (d.hk : Int), .list 1 (natsV d.rows)]
end Go.Abs
