/-
 Several texts: X10, X11.
-/
import Derived.Test.YtodpkfillohplaaDoorX9
set_option linter.all false
namespace Go.Abs
set_option maxRecDepth 10000
set_option maxHeartbeats 4000000
def lostV (a b : List Nat) (n : Nat) : Nat := if subB a b n then lostN a b n else 0
def treeV (s : List (List Nat)) (j : List Nat) (n i : Nat) : Nat → Int × Nat
 | 0 => (-1, lostV j (s.getD i []) n)
 | k + 1 => if subB (s.getD k []) (s.getD i []) n = true ∧ lostV (s.getD k []) (s.getD i []) n < (treeV s j n i k).2 then ((k : Int), lostV (s.getD k []) (s.getD i []) n) else treeV s j n i k
def treeL (s : List (List Nat)) (j : List Nat) (n m : Nat) : List Int := (List.range m).map fun i => (treeV s j n i i).1
def treeS (s : List (List Nat)) (j : List Nat) (n : Nat) : Nat → Nat
 | 0 => 0
 | i + 1 => treeS s j n i + (treeV s j n i i).2
def intsV (l : List Int) : List AV := l.map fun n => iv n
@[simp] theorem intsV_len (l : List Int) : (intsV l).length = l.length := by simp [intsV]
@[simp] theorem treeL_len (s : List (List Nat)) (j : List Nat) (n m : Nat) : (treeL s j n m).length = m := by simp [treeL]
end Go.Abs
set_option linter.all false
namespace Go.Abs
set_option maxRecDepth 10000
set_option maxHeartbeats 4000000
theorem firstN_ok {l : List DesN} {hk n : Nat} (h : SetsOk l hk n) (t : Bool) : (firstN t hk n l).Ok := by
 obtain ⟨⟨k1, k2⟩, k3, k4⟩ := h.k1;have hrow := setsN_row (t := t) h;refine ⟨k1, k2, by simp [firstN]; omega, by simp [firstN]; omega, fun r hr => ?_⟩
 obtain ⟨y, hy, rfl⟩ := List.mem_map.1 hr;obtain ⟨q, hq, rfl⟩ := List.mem_map.1 hy;exact turnR_lt (joinAt_lt hrow (List.mem_range.1 hq))
theorem SetsOk.pair {l : List DesN} {hk n : Nat} (h : SetsOk l hk n) {a b : DesN} (ha : a ∈ l) (hb : b ∈ l) : SetsOk [a, b] hk n := by
 refine ⟨by simp, by simp, fun d hd => ?_, fun d hd => ?_, fun d hd => ?_⟩
 all_goals
  simp only [List.mem_cons, List.not_mem_nil, or_false] at hd
 ·rcases hd with rfl | rfl
  ·exact h.ok _ ha
  ·exact h.ok _ hb
 ·rcases hd with rfl | rfl
  ·exact h.hk _ ha
  ·exact h.hk _ hb
 ·rcases hd with rfl | rfl
  ·exact h.rows _ ha
  ·exact h.rows _ hb
theorem SetsOk.first {l : List DesN} {hk n : Nat} (h : SetsOk l hk n) (t : Bool) {b : DesN} (hb : b ∈ l) : SetsOk [firstN t hk n l, b] hk n := by
 refine ⟨by simp, by simp, fun d hd => ?_, fun d hd => ?_, fun d hd => ?_⟩
 all_goals
  simp only [List.mem_cons, List.not_mem_nil, or_false] at hd
 ·rcases hd with rfl | rfl
  ·exact firstN_ok h t
  ·exact h.ok _ hb
 ·rcases hd with rfl | rfl
  ·rfl
  ·exact h.hk _ hb
 ·rcases hd with rfl | rfl
  ·simp [firstN]
  ·exact h.rows _ hb
end Go.Abs
