/-
 Chapter 12, plain law: lists of sets and their errors.
-/
import Derived.Test.YtodpkfillohplaaDoorX3
set_option linter.all false
namespace Go.Abs
set_option maxRecDepth 10000
def firstE : List DesA → Int
 | [] => 0
 | d :: l => if checkD d ≠ 0 then checkD d else firstE l
theorem firstE_at : ∀ {l : List DesA} {i : Nat} (h : i < l.length), (∀ j (hj : j < l.length), j < i → checkD l[j] = 0) → checkD l[i] ≠ 0 → firstE l = checkD l[i]
 | d :: l, 0, _, _, h => by
  unfold firstE;exact if_pos h
 | d :: l, i + 1, hi, hj, h => by
  have h0 := hj 0 (by simp) (by omega)
  unfold firstE;rw [if_neg (by simpa using h0)]
  exact firstE_at (l := l) (i := i) (by simpa using hi) (fun j hj' hji => hj (j + 1) (by simpa using hj') (by omega)) h
theorem firstE_none : ∀ {l : List DesA}, (∀ j (hj : j < l.length), checkD l[j] = 0) → firstE l = 0
 | [], _ => rfl
 | d :: l, hj => by
  have h0 := hj 0 (by simp)
  unfold firstE;rw [if_neg (by simpa using h0)]
  exact firstE_none fun j hj' => hj (j + 1) (by simpa using hj')
def headA (l : List DesA) : DesA := l.headD ⟨0, []⟩
def likeB (l : List DesA) (d : DesA) : Bool := decide (d.hk = (headA l).hk ∧ d.rows.length = (headA l).rows.length)
def checkS (l : List DesA) : Int := if 10 < l.length then 5 else if l.length = 0 then 7 else if firstE l ≠ 0 then firstE l else if l.all (likeB l) then 0 else 4
def wayE (w : Int) (l : List DesA) : Int := if checkS l ≠ 0 then checkS l else if w = 1 ∨ w = 2 then 0 else 2
structure SetsOk (l : List DesN) (hk n : Nat) : Prop where
 l1 : 1 ≤ l.length
 l10 : l.length ≤ 10
 ok : ∀ d ∈ l, d.Ok
 hk : ∀ d ∈ l, d.hk = hk
 rows : ∀ d ∈ l, d.rows.length = n
theorem checkS_ok {l : List DesN} {hk n : Nat} (h : SetsOk l hk n) : checkS (l.map DesN.a) = 0 := by
 have h1 := h.l1;have h10 := h.l10;unfold checkS;rw [if_neg (by rw [List.length_map]; omega), if_neg (by rw [List.length_map]; omega), if_neg, if_pos]
 ·refine List.all_eq_true.2 fun d hd => decide_eq_true ?_
  obtain ⟨x, hx, rfl⟩ := List.mem_map.1 hd;obtain ⟨d0, r, hr⟩ : ∃ d0 r, l = d0 :: r := by
   cases l with
   | nil => simp at h1
   | cons a r => exact ⟨a, r, rfl⟩
  have hh : headA (l.map DesN.a) = d0.a := by rw [hr]; rfl
  rw [hh];have a1 := h.hk x hx;have a2 := h.rows x hx;have b1 := h.hk d0 (by rw [hr]; simp)
  have b2 := h.rows d0 (by rw [hr]; simp)
  exact ⟨by simp [DesN.a, a1, b1], by simp [DesN.a, a2, b2]⟩
 ·rw [firstE_none]
  ·simp
  ·intro j hj
   rw [List.getElem_map];exact checkD_ok (h.ok _ (List.getElem_mem _))
end Go.Abs
