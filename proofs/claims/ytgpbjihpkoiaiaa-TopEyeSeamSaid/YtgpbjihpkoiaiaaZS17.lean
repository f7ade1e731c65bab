/-
 Several texts: ZS6, ZS7, ZS9, ZS10, ZS11, ZS12, ZS13, ZS14, ZS16, ZS17.
-/
import Derived.Test.YtgpbjihpkoiaiaaZS5
import Derived.Test.YtgpbjihpkoiaiaaWpE
set_option linter.all false
namespace Go.Abs.Seam
set_option maxRecDepth 10000
set_option maxHeartbeats 4000000
def at' (l : List Span) (i : Nat) : Span := l[i]?.getD ⟨0,0⟩
def big : Span := ⟨-1099511627776,1099511627776⟩
def foR (wa wb : List Span) (s : Span) (i : Nat) : Span := ⟨s.lo + (at' wa i).lo - (at' wb i).hi,s.hi + (at' wa i).hi - (at' wb i).lo⟩
def fo (wa wb : List Span) (ts : List Int) : Nat → Span
 | 0 => ⟨0,0⟩
 | i + 1 => if ((i : Int) + 1) ∈ ts then ⟨0,0⟩ else foR wa wb (fo wa wb ts i) i
def baD (wa wb : List Span) (ts : List Int) (n : Nat) : Nat → Span
 | 0 => if (n : Int) = 0 ∨ (n : Int) ∈ ts then ⟨0,0⟩ else big
 | d + 1 => if (n : Int) - (d + 1 : Nat) = 0 ∨ (n : Int) - (d + 1 : Nat) ∈ ts then ⟨0,0⟩ else
   ⟨(baD wa wb ts n d).lo - (at' wa (n - (d + 1))).hi + (at' wb (n - (d + 1))).lo,(baD wa wb ts n d).hi - (at' wa (n - (d + 1))).lo + (at' wb (n - (d + 1))).hi⟩
def outR (wa wb : List Span) (ts : List Int) (n j : Nat) : Span :=
 ⟨max (fo wa wb ts j).lo (baD wa wb ts n (n - j)).lo,min (fo wa wb ts j).hi (baD wa wb ts n (n - j)).hi⟩
abbrev BadAt (wa wb : List Span) (ts : List Int) (i : Nat) : Prop := ((i : Int) + 1) ∈ ts ∧ ¬ (foR wa wb (fo wa wb ts i) i).Has0
def Wide (w : List Span) : Prop := ∀ i,0 ≤ (at' w i).lo ∧ (at' w i).lo ≤ 10000 ∧ 0 ≤ (at' w i).hi ∧ (at' w i).hi ≤ 10000
end Go.Abs.Seam
set_option linter.all false
namespace Go.Abs.Seam
def dS (m : List Span) (f e : Nat) : Span := ⟨(pre m e).lo - (pre m f).lo,(pre m e).hi - (pre m f).hi⟩
section
variable {wa wb : List Span} {ts0 : List Int} (hl : wa.length = wb.length)
include hl
end
end Go.Abs.Seam
set_option linter.all false
namespace Go.Abs.Seam
set_option maxRecDepth 10000
set_option maxHeartbeats 4000000
def Mid (s : Span) : Prop := -4398046511104 ≤ s.lo ∧ s.lo ≤ 4398046511104 ∧ -4398046511104 ≤ s.hi ∧ s.hi ≤ 4398046511104
def farL (s : Span) : Int := max s.hi (0 - s.lo)
def worstL : List Span → Int := fun l => l.foldl (fun n s => max n (farL s)) 0
end Go.Abs.Seam
set_option linter.all false
namespace Go.Abs.Seam
set_option maxRecDepth 10000
set_option maxHeartbeats 4000000
def atI (l : List Int) (i : Nat) : Int := l[i]?.getD 0
def ahT (tA tB : List Int) : Nat → Int
 | 0 => 0
 | i + 1 => ahT tA tB i + atI tA i - atI tB i
abbrev InW (w : Span) (n : Int) : Prop := w.lo ≤ n ∧ n ≤ w.hi
abbrev FitT (wa wb : List Span) (tA tB : List Int) (i : Nat) : Prop := InW (at' wa i) (atI tA i) ∧ InW (at' wb i) (atI tB i)
structure TruthA where
 a : List Int
 b : List Int
def TruthA.av (t : TruthA) : AV := .agg [.list 1 (t.a.map fun n => iv n),.list 1 (t.b.map fun n => iv n)]
structure RunRes (wa wb : List Span) (ts : List Int) (t : TruthA) (n : Nat) (res : AV) : Prop where
 h4 : ¬ (t.a.length = n ∧ t.b.length = n) → res = .tuple [.own 1 [],iv 4]
 h3 : t.a.length = n → t.b.length = n → ∀ i,i < n → ¬ FitT wa wb t.a t.b i → res = .tuple [.own 1 [],iv 3]
 h9 : t.a.length = n → t.b.length = n → (∀ i,i < n → FitT wa wb t.a t.b i) → ∀ i : Nat,i ≤ n → (i : Int) ∈ ts → ahT t.a t.b i ≠ 0 → res = .tuple [.own 1 [],iv 9]
 h0 : t.a.length = n → t.b.length = n → (∀ i,i < n → FitT wa wb t.a t.b i) → (∀ i : Nat,i ≤ n → (i : Int) ∈ ts → ahT t.a t.b i = 0) → res = .tuple [.own 1 (((List.range (n + 1)).map (ahT t.a t.b)).map fun n => iv n),iv 0]
end Go.Abs.Seam
set_option linter.all false
namespace Go.Abs.Seam
set_option maxRecDepth 10000
set_option maxHeartbeats 4000000
end Go.Abs.Seam
set_option linter.all false
namespace Go.Abs.Seam
set_option maxRecDepth 10000
set_option maxHeartbeats 1000000
def fD (m : List Span) (q : Nat) (g : Int) (i : Nat) : Int := max (at' m i).lo (g - (dS m (i + 1) q).hi)
def gN (m : List Span) (p q : Nat) (g : Int) : Nat → Int
 | 0 => g
 | j + 1 => gN m p q g j - fD m q (gN m p q g j) (p + j)
def fA (wa wb m : List Span) (p q : Nat) (g : Int) (j : Nat) : Int := max (at' wa (p + j)).lo ((at' wb (p + j)).lo + fD m q (gN m p q g j) (p + j))
def fB (wa wb m : List Span) (p q : Nat) (g : Int) (j : Nat) : Int := fA wa wb m p q g j - fD m q (gN m p q g j) (p + j)
end Go.Abs.Seam
set_option linter.all false
namespace Go.Abs.Seam
set_option maxRecDepth 10000
set_option maxHeartbeats 4000000
def kvM (edge ahead : Int) (ts : List Int) : List (Int × AV) := ts.foldl (fun kv t => kvSet t (iv 0) kv) [(edge,iv ahead)]
section
variable {wa wb : List Span} {ts : List Int} {n : Nat} (hla : wa.length = n) (hlb : wb.length = n)
include hla hlb
structure ShowInv (wa wb : List Span) (ts : List Int) (edge : Nat) (ahead : Int) (i fr : Nat) (was : Int) (A B : List Int) : Prop where
 lt : fr < i
 la : A.length = fr
 lb : B.length = fr
 known : fr = 0 ∨ (fr : Int) ∈ ts ∨ fr = edge
 between : ∀ x,fr < x → x < i → ¬ (x : Int) ∈ ts ∧ x ≠ edge
 fit : ∀ j,j < fr → FitT wa wb A B j
 now : ahT A B fr = was
 wasM : (fr = 0 ∨ (fr : Int) ∈ ts) → was = 0
 wasE : fr = edge → was = ahead
 marks : ∀ x : Nat,x ≤ fr → (x : Int) ∈ ts → ahT A B x = 0
 edge : edge ≤ fr → ahT A B edge = ahead
end
structure TruthOk (wa wb : List Span) (ts : List Int) (n edge : Nat) (ahead : Int) (t : TruthA) : Prop where
 la : t.a.length = n
 lb : t.b.length = n
 fit : ∀ i,i < n → FitT wa wb t.a t.b i
 marks : ∀ i : Nat,i ≤ n → (i : Int) ∈ ts → ahT t.a t.b i = 0
 edge : ahT t.a t.b edge = ahead
end Go.Abs.Seam
set_option linter.all false
namespace Go.Abs.Seam
set_option maxRecDepth 10000
set_option maxHeartbeats 1000000
structure PairOk (a b : List Part) (ts : List Int) (wa wb : List Span) (n : Nat) : Prop where
 ha : wa = widthsL a
 hb : wb = widthsL b
 la : wa.length = n
 lb : wb.length = n
 n200 : n ≤ 200
 wda : Wide wa
 wdb : Wide wb
 oa : ∀ i,i < n → (at' wa i).lo ≤ (at' wa i).hi
 ob : ∀ i,i < n → (at' wb i).lo ≤ (at' wb i).hi
 om : ∀ i,(at' (moreL wa wb) i).lo ≤ (at' (moreL wa wb) i).hi
 sm : Small (moreL wa wb)
 lm : (moreL wa wb).length = n
 pa : pairL a b = ⟨wa,wb,moreL wa wb,0⟩
 ca : checkL a = 0
 cb : checkL b = 0
 ab : picksL a = picksL b
theorem take_map_all {α β : Type} {n : Nat} (f : α → β) {l : List α} (h : l.length = n) : List.take n (List.map f l) = List.map f l := List.take_of_length_le (by simp; omega)
end Go.Abs.Seam
set_option linter.all false
namespace Go.Abs.Seam
set_option maxRecDepth 10000
set_option maxHeartbeats 1000000
@[go_sem] theorem take_all {α : Type} {k : Nat} {l : List α} (h : l.length ≤ k) : l.take k = l := List.take_of_length_le h
def segB (m : List Span) (tol : Int) (p q : Nat) : Bool := decide ((pre (seg m p q) (q - p)).Has0 ∧ worstL (strL (seg m p q)) ≤ tol)
def endB (m : List Span) (tol : Int) (p : Nat) : Bool := decide (worstL (sumsL (m.drop p)) ≤ tol)
def matchGo (m : List Span) (tol : Int) (f : Nat) : List Int → Bool
 | [] => endB m tol f
 | t :: ts => segB m tol f t.toNat && matchGo m tol t.toNat ts
def extL (m : List Span) (tol : Int) (n : Nat) : Nat → Nat → Option (List Int)
 | 0,f => if endB m tol f then some [] else none
 | k + 1,f => (List.range' (f + 1) (n - f)).findSome? fun t => if segB m tol f t then (extL m tol n k t).map (fun l => (t : Int) :: l) else none
section
variable {m : List Span} {tol : Int} {n : Nat}
def chainB (m : List Span) (tol : Int) (f : Nat) : List Int → Bool
 | [] => true
 | t :: ts => segB m tol f t.toNat && chainB m tol t.toNat ts
def lastOf (f : Nat) : List Int → Nat
 | [] => f
 | t :: ts => lastOf t.toNat ts
def tryO (m : List Span) (tol : Int) (n k : Nat) (ps : List Int) : Option (List Int) := if chainB m tol 0 ps then (extL m tol n k (lastOf 0 ps)).map (ps ++ ·) else none
end
end Go.Abs.Seam
set_option linter.all false
namespace Go.Abs.Seam
set_option maxRecDepth 10000
set_option maxHeartbeats 1000000
def marksO (m : List Span) (tol : Int) (n : Nat) : Option (List Int) := (List.range (n + 1)).findSome? fun k => extL m tol n k 0
end Go.Abs.Seam
