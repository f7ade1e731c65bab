/-
 Several texts: M1, M3, M4, KL, M2, M5, P2, R1, P3, P4, V0.
-/
import Derived.Test.YtgpbjihpkoiaiaaP1
import Derived.Test.YtgpbjihpkoiaiaaFns
import Derived.Test.YtgpbjihpkoiaiaaK
import Derived.Test.YtgpbjihpkoiaiaaEvI
set_option linter.all false
namespace Go.Abs
set_option maxRecDepth 10000
def gb (l : List Bool) (i : Nat) : Bool := l.getD (i % l.length) false
def begs (l : List Bool) (i : Nat) : Bool := gb l i != gb l (i + l.length - 1)
def lenT (l : List Bool) (i : Nat) : Nat := 1 + (List.range l.length).findIdx fun k => gb l (i + 1 + k) != gb l i
theorem gb_lt {l : List Bool} {i : Nat} (h : i < l.length) : gb l i = l[i] := by
 unfold gb;rw [Nat.mod_eq_of_lt h,List.getD_eq_getElem?_getD,List.getElem?_eq_getElem h]; rfl
theorem gb_mod (l : List Bool) (i : Nat) : gb l (i % l.length) = gb l i := by
 unfold gb; rw [Nat.mod_mod]
theorem gb_add (l : List Bool) (i : Nat) : gb l (i + l.length) = gb l i := by
 unfold gb; rw [Nat.add_mod_right]
structure LenIs (l : List Bool) (i n : Nat) : Prop where
 pos : 1 ≤ n
 lt : n < l.length
 same : ∀ k,k < n → gb l (i + k) = gb l i
 other : gb l (i + n) ≠ gb l i
theorem lenT_is {l : List Bool} {i : Nat} (h : begs l i = true) : LenIs l i (lenT l i) := by
 have hb : gb l i ≠ gb l (i + l.length - 1) := by simpa [begs] using h
 have h2 : 2 ≤ l.length := by
  rcases Nat.lt_or_ge 1 l.length with h | h
  ·exact h
  ·exfalso; apply hb
   unfold gb;have : l.length = 0 ∨ l.length = 1 := by omega
   rcases this with h' | h'
   ·rw [List.length_eq_zero_iff.1 h']; simp
   ·rw [h',Nat.mod_one,Nat.mod_one]
 have hex : ∃ k ∈ List.range l.length,(gb l (i + 1 + k) != gb l i) = true := ⟨l.length - 2,List.mem_range.2 (by omega),by
  rw [show i + 1 + (l.length - 2) = i + l.length - 1 by omega]
  simpa using fun e => hb e.symm⟩
 have hlt := List.findIdx_lt_length_of_exists hex;have hle : (List.range l.length).findIdx (fun k => gb l (i + 1 + k) != gb l i) ≤ l.length - 2 := by
  rw [List.length_range] at hlt;rcases Nat.lt_or_ge (l.length - 2) ((List.range l.length).findIdx (fun k => gb l (i + 1 + k) != gb l i)) with h3 | h3
  ·exfalso
   have := List.not_of_lt_findIdx h3;simp only [List.getElem_range,bne_eq_false_iff_eq,Bool.not_eq_true,Bool.not_eq_true'] at this;rw [show i + 1 + (l.length - 2) = i + l.length - 1 by omega] at this
   exact hb this.symm
  ·exact h3
 have hf := List.findIdx_getElem (w := hlt);refine ⟨by unfold lenT; omega,by unfold lenT; omega,fun k hk => ?_,?_⟩
 ·match k with
  | 0 => rfl
  | k + 1 =>
   unfold lenT at hk;have := List.not_of_lt_findIdx (show k < (List.range l.length).findIdx (fun k => gb l (i + 1 + k) != gb l i) by omega)
   simp at this;rw [show i + (k + 1) = i + 1 + k by omega]; exact this
 ·simp at hf
  unfold lenT;rw [← Nat.add_assoc]; exact hf
theorem LenIs.eq {l : List Bool} {i n m : Nat} (h : LenIs l i n) (h' : LenIs l i m) : n = m := by
 rcases Nat.lt_trichotomy n m with h1 | h1 | h1
 ·exact absurd (h'.same n h1) h.other
 ·exact h1
 ·exact absurd (h.same m h1) h'.other
theorem LenIs.begs {l : List Bool} {i n : Nat} (h : LenIs l i n) : ∀ k,1 ≤ k → k < n → Go.Abs.begs l (i + k) = false := fun k h1 h2 => by
 have a := h.same k h2;have b := h.same (k - 1) (by omega)
 have e : gb l (i + k + l.length - 1) = gb l (i + (k - 1)) := by
  rw [show i + k + l.length - 1 = i + (k - 1) + l.length by omega,gb_add]
 unfold Go.Abs.begs;rw [e,a,b]; simp
theorem LenIs.end {l : List Bool} {i n : Nat} (h : LenIs l i n) : Go.Abs.begs l (i + n) = true := by
 have b := h.same (n - 1) (by have := h.pos; omega)
 have e : gb l (i + n + l.length - 1) = gb l (i + (n - 1)) := by
  have := h.pos;rw [show i + n + l.length - 1 = i + (n - 1) + l.length by omega,gb_add]
 unfold Go.Abs.begs;rw [e,b];simpa using h.other
theorem begs_mod (l : List Bool) (i : Nat) : begs l (i % l.length) = begs l i := by
 rcases Nat.eq_zero_or_pos l.length with h | h
 ·rw [h,Nat.mod_zero]
 have hd := Nat.div_add_mod i l.length;unfold begs;rw [gb_mod]
 congr 1
 unfold gb
 congr 1
 conv => rhs; rw [← hd]
 rw [show l.length * (i / l.length) + i % l.length + l.length - 1 = (i % l.length + l.length - 1) + l.length * (i / l.length) by omega,Nat.add_mul_mod_self_left]
theorem endless_iff {l : List Bool} (h : 0 < l.length) : ((List.range l.length).any (begs l)) = false ↔ ∀ i,gb l i = gb l 0 := by
 constructor
 ·intro hn
  have hs : ∀ i,i < l.length → gb l i = gb l 0 := by
   intro i;induction i with
   | zero => intro _; rfl
   | succ i ih =>
    intro hi;rw [List.any_eq_false] at hn;have := hn (i + 1) (List.mem_range.2 hi);unfold begs at this;rw [show i + 1 + l.length - 1 = i + l.length by omega,gb_add] at this
    simp at this;rw [this]; exact ih (by omega)
  intro i;rw [← gb_mod l i];exact hs _ (Nat.mod_lt _ h)
 ·intro hs
  rw [List.any_eq_false];intro i _;unfold begs;rw [hs i,hs (i + l.length - 1)]; simp
structure RunT where
 first : Nat
 len : Nat
 up : Bool
def RunT.av (x : RunT) : AV := .agg [iv (x.first : Int),iv (x.len : Int),.bool x.up]
def runAt (l : List Bool) (i : Nat) : RunT := ⟨i,lenT l i,gb l i⟩
def runsTo (l : List Bool) (i : Nat) : List RunT := ((List.range i).filter (begs l)).map (runAt l)
def runsFrom (l : List Bool) (i : Nat) : List RunT := ((List.range' i (l.length - i)).filter (begs l)).map (runAt l)
def anyTo (l : List Bool) (i : Nat) : Bool := (List.range i).any (begs l)
def lastT (l : List Bool) : List RunT := if anyTo l l.length then [] else [⟨0,1000,gb l 0⟩]
def runsT (l : List Bool) : List RunT := runsTo l l.length ++ lastT l
theorem runsTo_succ (l : List Bool) (i : Nat) : runsTo l (i + 1) = runsTo l i ++ if begs l i then [runAt l i] else [] := by
 unfold runsTo;rw [List.range_succ,List.filter_append,List.map_append];cases h : begs l i <;> simp [h]
theorem anyTo_succ (l : List Bool) (i : Nat) : anyTo l (i + 1) = (anyTo l i || begs l i) := by
 unfold anyTo;rw [List.range_succ,List.any_append]; simp
theorem runsFrom_step {l : List Bool} {i : Nat} (h : i < l.length) : runsFrom l i = (if begs l i then [runAt l i] else []) ++ runsFrom l (i + 1) := by
 unfold runsFrom;rw [show l.length - i = (l.length - (i + 1)) + 1 by omega,List.range'_succ]
 cases hb : begs l i <;> simp [hb]
theorem runsFrom_end (l : List Bool) : runsFrom l l.length = [] := by
 unfold runsFrom; rw [Nat.sub_self]; rfl
theorem runsFrom_zero (l : List Bool) : runsFrom l 0 = runsTo l l.length := by
 unfold runsFrom runsTo; rw [List.range_eq_range',Nat.sub_zero]
theorem anyTo_runs (l : List Bool) (i : Nat) : anyTo l i = false ↔ runsTo l i = [] := by
 unfold anyTo runsTo;rw [List.map_eq_nil_iff,List.filter_eq_nil_iff,List.any_eq_false]
end Go.Abs
set_option linter.all false
namespace Go.Abs
set_option maxRecDepth 10000
def rowTo (g : Nat → Bool) : Nat → Nat
 | 0 => 0
 | n + 1 => rowTo g n ||| (if g n then 2 ^ n else 0)
theorem rowTo_bit (g : Nat → Bool) (n j : Nat) : (rowTo g n).testBit j = (decide (j < n) && g j) := by
 induction n with
 | zero => simp [rowTo]
 | succ n ih =>
  unfold rowTo;rw [Nat.testBit_or,ih];by_cases hj : j = n
  ·subst hj
   cases hg : g j <;> simp [hg,Nat.testBit_two_pow]
  ·have hne : ¬ n = j := fun e => hj e.symm
   have e2 : (if g n then 2 ^ n else 0 : Nat).testBit j = false := by
    cases hg : g n
    ·simp
    ·simp [Nat.testBit_two_pow,hne]
   rw [e2,Bool.or_false]
   congr 1
   by_cases h1 : j < n
   ·rw [decide_eq_true h1,decide_eq_true (by omega)]
   ·rw [decide_eq_false h1,decide_eq_false (by omega)]
theorem rowTo_lt (g : Nat → Bool) (n : Nat) : rowTo g n < 2 ^ n := by
 induction n with
 | zero => simp [rowTo]
 | succ n ih =>
  unfold rowTo;have h1 : 2 ^ n < 2 ^ (n + 1) := Nat.pow_lt_pow_right (by omega) (by omega)
  refine Nat.or_lt_two_pow (by omega) ?_
  split
  ·exact h1
  ·exact Nat.pow_pos (by omega)
def rowOf (l : List Bool) : Nat := l.foldr (fun b a => a * 2 + if b then 1 else 0) 0
end Go.Abs
set_option linter.all false
namespace Go.Abs
set_option maxRecDepth 10000
def perAt (n : Nat) (P : Nat → Bool) (by' : Nat) : Bool := decide (1 ≤ by') && decide (n % by' = 0) && P by'
def perT (n : Nat) (P : Nat → Bool) : Nat := ((List.range n).find? (perAt n P)).getD n
end Go.Abs
set_option linter.all false
namespace Go.Abs
set_option maxRecDepth 10000
set_option maxHeartbeats 8000000
structure FloatT where
 pick : Int
 hook : Int
 len : Int
 up : Bool
def FloatT.av (f : FloatT) : AV := .agg [iv f.pick,iv f.hook,iv f.len,.bool f.up]
def mxStep (b : Bool) (m : Int) (f : FloatT) : Int := if f.up = b then max m f.len else m
def mxF (b : Bool) (l : List FloatT) : Int := l.foldl (mxStep b) 0
def keyI : AV → Int
 | .int _ n => n
 | _ => 0
def e1L : AV × AV := (iv 1,.agg [.ptr 128 0 0,.ptr 128 0 1])
def e2L : AV × AV := (iv 2,.agg [.ptr 128 0 3,.ptr 128 0 2])
end Go.Abs
set_option linter.all false
namespace Go.Abs
set_option maxRecDepth 10000
def lengthT (l : List Bool) (a : Nat) : Nat := if begs l a then lenT l a else if anyTo l l.length then 0 else if a = 0 then 1000 else 0
def refTo (l : List Bool) (b : Int) (k : Nat) : List RunT := ((List.range k).filter fun k => decide (lengthT l k ≠ 0) && decide (b < lengthT l k)).map fun k => ⟨k,lengthT l k,gb l k⟩
def floatW (i : Nat) (x : RunT) : FloatT := ⟨i,x.first,x.len,x.up⟩
def floatH (i : Nat) (x : RunT) : FloatT := ⟨x.first,i,x.len,x.up⟩
def pickR (d : DesN) (i : Nat) : List Bool := (List.range d.hk).map fun h => (d.rows.getD i 0).testBit h
def hookR (d : DesN) (h : Nat) : List Bool := d.rows.map fun r => r.testBit h
def flTo (R : Nat → List Bool) (mk : Nat → RunT → FloatT) (i : Nat) : List FloatT := (List.range i).flatMap fun i => (runsT (R i)).map (mk i)
theorem flTo_succ (R : Nat → List Bool) (mk : Nat → RunT → FloatT) (i : Nat) : flTo R mk (i + 1) = flTo R mk i ++ (runsT (R i)).map (mk i) := by
 unfold flTo; rw [List.range_succ,List.flatMap_append]; simp
def flFrom (R : Nat → List Bool) (mk : Nat → RunT → FloatT) (i n : Nat) : List FloatT := (List.range' i (n - i)).flatMap fun i => (runsT (R i)).map (mk i)
def weftF (d : DesN) : List FloatT := flTo (pickR d) floatW d.rows.length
def warpF (d : DesN) : List FloatT := flTo (hookR d) floatH d.hk
end Go.Abs
set_option linter.all false
namespace Go.Abs
set_option maxRecDepth 10000
def sameP (d : DesN) (k : Nat) : Bool := decide (d.rows.drop k = d.rows.take (d.rows.length - k))
def sameRow (hk k r : Nat) : Bool := decide (r >>> k = r &&& (2 ^ (hk - k) - 1))
def sameH (d : DesN) (k : Nat) : Bool := d.rows.all (sameRow d.hk k)
def leastP (d : DesN) : Nat := perT d.rows.length (sameP d)
def leastH (d : DesN) : Nat := perT d.hk (sameH d)
def wholeR (R : Nat → List Bool) (n k : Nat) : Bool := (List.range n).all fun i => decide (R i = R (i % k))
theorem rows_get {d : DesN} {i : Nat} (h : i < d.rows.length) : d.rows.getD i 0 = d.rows[i] := by
 rw [List.getD_eq_getElem?_getD,List.getElem?_eq_getElem h]; rfl
end Go.Abs
set_option linter.all false
namespace Go.Abs
set_option maxRecDepth 10000
set_option maxHeartbeats 2000000
def largeT (l : List DesA) : Bool := l.any fun d => decide (70 < d.rows.length)
def likeT (a b : DesA) : Bool := decide (a.hk = b.hk) && decide (a.rows.length = b.rows.length)
def sameT (a b : DesA) : Bool := decide (a.hk = b.hk) && decide (a.rows = b.rows)
end Go.Abs
set_option linter.all false
namespace Go.Abs
set_option maxRecDepth 10000
set_option maxHeartbeats 2000000
def ringV (l : List Bool) : AV := .list 1 (l.map fun b => .bool b)
def tabV (t : List (List Bool)) : List AV := t.map ringV
def ptsT (r n : Nat) : List Bool := (List.range n).map fun h => r.testBit h
def tabN (d : DesN) (k : Nat) : List (List Bool) := (d.rows.take k).map fun r => ptsT r d.hk
def overT (t : List (List Bool)) (n : Nat) : List (List Bool) := (List.range n).map fun h => t.map fun l => l.getD h false
def wholeT (t : List (List Bool)) (k : Nat) : Bool := decide (t.length % k = 0) && wholeR (fun i => t.getD i []) t.length k
end Go.Abs
set_option linter.all false
namespace Go.Abs
set_option maxRecDepth 10000
set_option maxHeartbeats 2000000
def runV (x : RunT) : List AV := [x.av]
end Go.Abs
set_option linter.all false
namespace Go.Abs
set_option maxRecDepth 10000
set_option maxHeartbeats 2000000
abbrev natsV (l : List Nat) : List AV := l.map fun n : Nat => iv (n : Int)
theorem nats_at {l : List Nat} {i : Nat} (h : i < l.length) : (natsV l)[i]? = some (iv ((l.getD i 0 : Nat) : Int)) := by
 unfold natsV;rw [List.getElem?_map,List.getElem?_eq_getElem h,List.getD_eq_getElem?_getD,List.getElem?_eq_getElem h]; rfl
theorem bit_eq (r h : Nat) : decide (((r >>> h &&& 1 : Nat) : Int) = 1) = r.testBit h := by
 rw [shr_and1];cases r.testBit h <;> simp
end Go.Abs
set_option linter.all false
namespace Go.Abs
set_option maxRecDepth 10000
set_option maxHeartbeats 4000000
def atN (d : DesN) (p h : Nat) : Bool := (d.rows.getD (p % d.rows.length) 0).testBit (h % d.hk)
def desV (d : DesN) : AV := .agg [iv (d.hk : Int),.list 1 (natsV d.rows)]
end Go.Abs
