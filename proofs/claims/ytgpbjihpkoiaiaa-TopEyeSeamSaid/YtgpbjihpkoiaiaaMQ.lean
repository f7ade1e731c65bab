/-
 Two lengths of one design, each of picks that are all alike: what Least, Marks and Ahead answer. Plain Lean. No condition beyond those that each theorem names.
-/
import Derived.Test.YtgpbjihpkoiaiaaZS17
set_option linter.all false
namespace Go.Abs.Seam
set_option maxRecDepth 10000
theorem pre_repQ (s : Span) (n : Nat) : ∀ i,i ≤ n → pre (List.replicate n s) i = ⟨i * s.lo,i * s.hi⟩
 | 0,_ => by simp [pre]
 | i + 1,h => by
  rw [pre_succ (by simp; omega),pre_repQ s n i (by omega)]
  simp only [List.getElem_replicate,Span.add,Span.mk.injEq];constructor
  ·rw [Int.natCast_add,Int.add_mul]; omega
  ·rw [Int.natCast_add,Int.add_mul]; omega
def oneP (n : Nat) (lo hi : Int) : List Part := [⟨(n : Int),lo,hi⟩]
structure OneOk (n : Nat) (lo hi : Int) : Prop where
 n1 : 1 ≤ n
 n2 : n ≤ 100
 l1 : 1 ≤ lo
 lh : lo ≤ hi
 h1 : hi ≤ 10000
theorem OneOk.check {n : Nat} {lo hi : Int} (h : OneOk n lo hi) : checkL (oneP n lo hi) = 0 := by
 have := h.n1; have := h.n2; have := h.l1; have := h.lh; have := h.h1
 have hp : (⟨(n : Int),lo,hi⟩ : Part).Ok := ⟨by simp only; omega,by simp only; omega,by simp only; omega⟩
 unfold checkL oneP;rw [if_neg (by simp),if_neg (by simp),if_neg (by simp [hp]),if_neg (by simp [picksL]; omega)]
theorem OneOk.widths {n : Nat} {lo hi : Int} : widthsL (oneP n lo hi) = List.replicate n ⟨lo,hi⟩ := by simp [widthsL,oneP,Part.w]
theorem zip_rep {α β γ : Type} (f : α → β → γ) (a : α) (b : β) : ∀ n,List.zipWith f (List.replicate n a) (List.replicate n b) = List.replicate n (f a b)
 | 0 => rfl
 | n + 1 => by simp [List.replicate_succ,zip_rep f a b n]
def dif (a b c d : Int) : Span := ⟨a - d,b - c⟩
theorem two_pair {n : Nat} {a b c d : Int} (h : OneOk n a b) (g : OneOk n c d) : pairL (oneP n a b) (oneP n c d) = ⟨List.replicate n ⟨a,b⟩,List.replicate n ⟨c,d⟩,List.replicate n (dif a b c d),0⟩ := by
 unfold pairL;rw [if_neg (by simp [h.check]),if_neg (by simp [g.check]),if_neg (by simp [picksL,oneP]),OneOk.widths,OneOk.widths]
 simp only [moreL,zip_rep,Span.sub,dif]
theorem two_open {n : Nat} {a b c d : Int} (h : OneOk n a b) (g : OneOk n c d) : openE (oneP n a b) (oneP n c d) [] = 0 ∧ openL (oneP n a b) (oneP n c d) [] = sumsL (List.replicate n (dif a b c d)) := by
 have hE : openE (oneP n a b) (oneP n c d) [] = 0 := by
  unfold openE;rw [two_pair h g];simp [incL,aheadGo]
 refine ⟨hE,?_⟩;unfold openL;rw [if_pos hE,two_pair h g];simp [aheadGo]
def allM (n : Nat) : List Int := (List.range n).map fun i => ((i + 1 : Nat) : Int)
def fromM (f k : Nat) : List Int := (List.range k).map fun i => ((f + i + 1 : Nat) : Int)
@[simp] theorem allM_len (n : Nat) : (allM n).length = n := by simp [allM]
end Go.Abs.Seam
