/-
 Two lengths of one design, each of picks that are all alike: what Least, Marks and Ahead answer. Plain Lean. No condition beyond those that each theorem names.
-/
import Derived.Test.YtgpbjihpkoiaiaaZS18
set_option linter.all false
namespace Go.Abs.Seam
set_option maxRecDepth 10000
theorem pre_repQ (s : Span) (n : Nat) : ∀ i, i ≤ n → pre (List.replicate n s) i = ⟨i * s.lo, i * s.hi⟩
 | 0, _ => by simp [pre]
 | i + 1, h => by
  rw [pre_succ (by simp; omega), pre_repQ s n i (by omega)]
  simp only [List.getElem_replicate, Span.add, Span.mk.injEq];constructor
  ·rw [Int.natCast_add, Int.add_mul]; omega
  ·rw [Int.natCast_add, Int.add_mul]; omega
theorem seg_repQ (s : Span) (n p q : Nat) (h : q ≤ n) : seg (List.replicate n s) p q = List.replicate (q - p) s := by
 unfold seg;rw [List.drop_replicate, List.take_replicate]
 congr 1
 omega
def oneP (n : Nat) (lo hi : Int) : List Part := [⟨(n : Int), lo, hi⟩]
structure OneOk (n : Nat) (lo hi : Int) : Prop where
 n1 : 1 ≤ n
 n2 : n ≤ 100
 l1 : 1 ≤ lo
 lh : lo ≤ hi
 h1 : hi ≤ 10000
theorem OneOk.check {n : Nat} {lo hi : Int} (h : OneOk n lo hi) : checkL (oneP n lo hi) = 0 := by
 have := h.n1; have := h.n2; have := h.l1; have := h.lh; have := h.h1
 have hp : (⟨(n : Int), lo, hi⟩ : Part).Ok := ⟨by simp only; omega, by simp only; omega, by simp only; omega⟩
 unfold checkL oneP;rw [if_neg (by simp), if_neg (by simp), if_neg (by simp [hp]), if_neg (by simp [picksL]; omega)]
theorem OneOk.widths {n : Nat} {lo hi : Int} : widthsL (oneP n lo hi) = List.replicate n ⟨lo, hi⟩ := by simp [widthsL, oneP, Part.w]
theorem zip_rep {α β γ : Type} (f : α → β → γ) (a : α) (b : β) : ∀ n, List.zipWith f (List.replicate n a) (List.replicate n b) = List.replicate n (f a b)
 | 0 => rfl
 | n + 1 => by simp [List.replicate_succ, zip_rep f a b n]
def dif (a b c d : Int) : Span := ⟨a - d, b - c⟩
theorem two_pair {n : Nat} {a b c d : Int} (h : OneOk n a b) (g : OneOk n c d) : pairL (oneP n a b) (oneP n c d) = ⟨List.replicate n ⟨a, b⟩, List.replicate n ⟨c, d⟩, List.replicate n (dif a b c d), 0⟩ := by
 unfold pairL;rw [if_neg (by simp [h.check]), if_neg (by simp [g.check]), if_neg (by simp [picksL, oneP]), OneOk.widths, OneOk.widths]
 simp only [moreL, zip_rep, Span.sub, dif]
theorem worst_pos (l : List Span) : 0 ≤ worstL l := by
 have key : ∀ (l : List Span) (n : Int), n ≤ l.foldl (fun n s => max n (farL s)) n := by
  intro l;induction l with
  | nil => intro n; simp
  | cons s l ih => intro n; rw [List.foldl_cons]; exact Int.le_trans (Int.le_max_left _ _) (ih _)
 exact key l 0
theorem two_open {n : Nat} {a b c d : Int} (h : OneOk n a b) (g : OneOk n c d) : openE (oneP n a b) (oneP n c d) [] = 0 ∧ openL (oneP n a b) (oneP n c d) [] = sumsL (List.replicate n (dif a b c d)) := by
 have hE : openE (oneP n a b) (oneP n c d) [] = 0 := by
  unfold openE;rw [two_pair h g];simp [incL, aheadGo]
 refine ⟨hE, ?_⟩;unfold openL;rw [if_pos hE, two_pair h g];simp [aheadGo]
theorem two_worst {n : Nat} {a b c d : Int} (h : OneOk n a b) (g : OneOk n c d) : 0 ≤ worstL (sumsL (List.replicate n (dif a b c d))) ∧ worstL (sumsL (List.replicate n (dif a b c d))) ≤ 2000000 := by
 refine ⟨worst_pos _, (worst_le (by omega)).2 fun s hs => ?_⟩
 obtain ⟨i, hi, rfl⟩ := List.mem_map.1 hs;have hi := List.mem_range.1 hi;rw [List.length_replicate] at hi;rw [pre_repQ _ _ _ (by omega)]
 have := h.n2; have := h.l1; have := h.lh; have := h.h1
 have := g.l1; have := g.lh; have := g.h1
 unfold farL dif;dsimp only;have e1 : (i : Int) * (b - c) ≤ 100 * 10000 := by
  by_cases hz : 0 ≤ b - c
  ·exact Int.mul_le_mul (by omega) (by omega) hz (by omega)
  ·have := Int.mul_nonneg (show (0 : Int) ≤ i by omega) (show 0 ≤ c - b by omega)
   have e : (i : Int) * (b - c) = -((i : Int) * (c - b)) := by rw [← Int.mul_neg]; congr 1; omega
   omega
 have e2 : -((i : Int) * (a - d)) ≤ 100 * 10000 := by
  have e : -((i : Int) * (a - d)) = (i : Int) * (d - a) := by rw [← Int.mul_neg]; congr 1; omega
  rw [e];by_cases hz : 0 ≤ d - a
  ·exact Int.mul_le_mul (by omega) (by omega) hz (by omega)
  ·have := Int.mul_nonneg (show (0 : Int) ≤ i by omega) (show 0 ≤ a - d by omega)
   have e : (i : Int) * (d - a) = -((i : Int) * (a - d)) := by rw [← Int.mul_neg]; congr 1; omega
   omega
 omega
theorem marks_least (n : Nat) (s : Span) : marksO (List.replicate n s) (worstL (sumsL (List.replicate n s))) n = some [] :=
 marks_some (k := 0) (by omega) (by simp [extL, endB]) (by omega)
def allM (n : Nat) : List Int := (List.range n).map fun i => ((i + 1 : Nat) : Int)
def fromM (f k : Nat) : List Int := (List.range k).map fun i => ((f + i + 1 : Nat) : Int)
theorem fromM_succ (f k : Nat) : fromM f (k + 1) = ((f + 1 : Nat) : Int) :: fromM (f + 1) k := by
 unfold fromM;rw [List.range_succ_eq_map, List.map_cons, List.map_map]
 congr 1
 apply List.map_congr_left;intro i _;simp only [Function.comp];omega
theorem allM_from (n : Nat) : allM n = fromM 0 n := by unfold allM fromM; simp
@[simp] theorem allM_len (n : Nat) : (allM n).length = n := by simp [allM]
theorem pre_one (s : Span) : pre [s] 1 = ⟨s.lo, s.hi⟩ := by simp [pre, Span.add]
theorem str_zero {s : Span} (h : s.Has0) : (strL [s]).take 1 = [⟨0, 0⟩] := by
 obtain ⟨h1, h2⟩ := h;have : strL [s] = [strE [s] 0, strE [s] 1] := rfl;rw [this];simp only [List.take_succ_cons, List.take_zero, List.cons.injEq, and_true];unfold strE;rw [show ([s] : List Span).length = 1 from rfl, pre_one]
 simp only [pre, Span.mk.injEq];omega
theorem ahead_all {n : Nat} {s : Span} (h : s.Has0) : ∀ k f, f + k = n → aheadGo (List.replicate n s) f (fromM f k) = some (List.replicate (k + 1) ⟨0, 0⟩)
 | 0, f, e => by
  obtain rfl : f = n := by omega
  simp [fromM, aheadGo, sumsL, pre]
 | k + 1, f, e => by
  have e1 : (((f + 1 : Nat) : Int)).toNat = f + 1 := Int.toNat_natCast _;rw [fromM_succ];simp only [aheadGo, e1];have e2 : seg (List.replicate n s) f (f + 1) = [s] := by
   rw [seg_repQ _ _ _ _ (by omega), show f + 1 - f = 1 by omega]; rfl
  rw [e2, show f + 1 - f = 1 by omega, pre_one, if_pos h, ahead_all h k (f + 1) (by omega), str_zero h]
  simp [List.replicate_succ]
theorem ahead_none {n : Nat} {s : Span} (hn : 1 ≤ n) (h : ¬ s.Has0) : aheadGo (List.replicate n s) 0 (fromM 0 n) = none := by
 obtain ⟨k, rfl⟩ : ∃ k, n = k + 1 := ⟨n - 1, by omega⟩
 rw [fromM_succ];have e1 : (((0 + 1 : Nat) : Int)).toNat = 1 := rfl;simp only [aheadGo, e1];have e2 : seg (List.replicate (k + 1) s) 0 1 = [s] := by
  rw [seg_repQ _ _ _ _ (by omega)]; rfl
 rw [e2, show 1 - 0 = 1 from rfl, pre_one, if_neg h]
theorem inc_all (n : Nat) : incL (allM n) = true := by
 rw [incL_iff];intro i h;unfold allM;simp;omega
theorem rng_all (n : Nat) : ((allM n).all fun t => decide (1 ≤ t ∧ t ≤ (n : Int))) = true := by
 rw [List.all_eq_true];intro t ht;obtain ⟨i, hi, rfl⟩ := List.mem_map.1 ht;have := List.mem_range.1 hi;exact decide_eq_true ⟨by omega, by omega⟩
theorem two_all {n : Nat} {a b c d : Int} (h : OneOk n a b) (g : OneOk n c d) : (a ≤ d ∧ c ≤ b → openE (oneP n a b) (oneP n c d) (allM n) = 0 ∧ openL (oneP n a b) (oneP n c d) (allM n) = List.replicate (n + 1) ⟨0, 0⟩) ∧
  (¬ (a ≤ d ∧ c ≤ b) → openE (oneP n a b) (oneP n c d) (allM n) = 9 ∧ openL (oneP n a b) (oneP n c d) (allM n) = []) := by
 have hp := two_pair h g;have hr := rng_all n;have hi := inc_all n;have e : openE (oneP n a b) (oneP n c d) (allM n) = if (aheadGo (List.replicate n (dif a b c d)) 0 (allM n)).isSome = false then 9 else 0 := by
  unfold openE;rw [hp];simp only [List.length_replicate, ne_eq, not_true_eq_false, if_false, hr, hi, Bool.true_eq_false]
 constructor
 ·intro hq
  have h0 : (dif a b c d).Has0 := by unfold dif Span.Has0; dsimp only; omega
  have ha := ahead_all h0 n 0 (Nat.zero_add n);rw [← allM_from] at ha;have hE : openE (oneP n a b) (oneP n c d) (allM n) = 0 := by rw [e, ha]; simp
  refine ⟨hE, ?_⟩;unfold openL;rw [if_pos hE, hp];dsimp only;rw [ha]; rfl
 ·intro hq
  have h0 : ¬ (dif a b c d).Has0 := by unfold dif Span.Has0; dsimp only; omega
  have ha := ahead_none h.n1 h0;rw [← allM_from] at ha;have hE : openE (oneP n a b) (oneP n c d) (allM n) = 9 := by rw [e, ha]; simp
  refine ⟨hE, ?_⟩;simp [openL, hE]
theorem worst_zero (l : List Span) (h : ∀ s ∈ l, s = ⟨0, 0⟩) : worstL l ≤ 0 := (worst_le (by omega)).2 fun s hs => by
 rw [h s hs]; simp [farL]
theorem ext_all {n : Nat} {s : Span} (h : s.Has0) : ∀ k f, f + k = n → extL (List.replicate n s) 0 n k f ≠ none
 | 0, f, e => by
  obtain rfl : f = n := by omega
  have : endB (List.replicate f s) 0 f = true := decide_eq_true (worst_zero _ fun x hx => by
   simp [sumsL, pre] at hx;exact hx)
  simp [extL, this]
 | k + 1, f, e => by
  intro hc;have e2 : seg (List.replicate n s) f (f + 1) = [s] := by
   rw [seg_repQ _ _ _ _ (by omega), show f + 1 - f = 1 by omega]; rfl
  have hs : segB (List.replicate n s) 0 f (f + 1) = true := by
   unfold segB;rw [e2, show f + 1 - f = 1 by omega, pre_one]
   refine decide_eq_true ⟨h, worst_zero _ fun x hx => ?_⟩
   have e3 : strL [s] = [strE [s] 0, strE [s] 1] := rfl;rw [e3] at hx;obtain ⟨h1, h2⟩ := h;simp only [List.mem_cons, List.not_mem_nil, or_false] at hx;rcases hx with rfl | rfl
   all_goals
    unfold strE;rw [show ([s] : List Span).length = 1 from rfl, pre_one]
    simp only [pre, Span.mk.injEq, Span.add, List.getElem?_cons_zero];omega
  exact ext_all h k (f + 1) (by omega) (ext_none.1 hc (f + 1) (by omega) (by omega) hs)
theorem marks_all {n : Nat} {s : Span} (h : s.Has0) : ∃ l, marksO (List.replicate n s) 0 n = some l ∧ l.length ≤ n := by
 cases hm : marksO (List.replicate n s) 0 n with
 | none =>
  unfold marksO at hm;rw [List.findSome?_eq_none_iff] at hm;exact absurd (hm n (List.mem_range.2 (by omega))) (ext_all h n 0 (by omega))
 | some l =>
  unfold marksO at hm;obtain ⟨k, hk, he⟩ := List.exists_of_findSome?_eq_some hm;have := List.mem_range.1 hk;have hb := ext_bound (Nat.zero_le _) he;exact ⟨l, rfl, by omega⟩
end Go.Abs.Seam
