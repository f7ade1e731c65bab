/-
 Chapter 12: which copy was made of which, by the document. No condition beyond those that each theorem names.
-/
import Derived.Test.YtodpkfillohplaaDoorX10
set_option linter.all false
namespace Go.Abs
set_option maxRecDepth 10000
set_option maxHeartbeats 4000000
theorem firstN_ok {l : List DesN} {hk n : Nat} (h : SetsOk l hk n) (t : Bool) : (firstN t hk n l).Ok := by
 obtain ⟨⟨k1, k2⟩, k3, k4⟩ := h.k1;have hrow := setsN_row (t := t) h;refine ⟨k1, k2, by simp [firstN]; omega, by simp [firstN]; omega, fun r hr => ?_⟩
 obtain ⟨y, hy, rfl⟩ := List.mem_map.1 hr;obtain ⟨q, hq, rfl⟩ := List.mem_map.1 hy;exact turnR_lt (joinAt_lt hrow (List.mem_range.1 hq))
theorem SetsOk.pair {l : List DesN} {hk n : Nat} (h : SetsOk l hk n) {a b : DesN} (ha : a ∈ l) (hb : b ∈ l) : SetsOk [a, b] hk n := by
 refine ⟨by simp, by simp, fun d hd => ?_, fun d hd => ?_, fun d hd => ?_⟩
 all_goals
  simp only [List.mem_cons, List.not_mem_nil, or_false] at hd
 ·rcases hd with rfl | rfl
  ·exact h.ok _ ha
  ·exact h.ok _ hb
 ·rcases hd with rfl | rfl
  ·exact h.hk _ ha
  ·exact h.hk _ hb
 ·rcases hd with rfl | rfl
  ·exact h.rows _ ha
  ·exact h.rows _ hb
theorem SetsOk.first {l : List DesN} {hk n : Nat} (h : SetsOk l hk n) (t : Bool) {b : DesN} (hb : b ∈ l) : SetsOk [firstN t hk n l, b] hk n := by
 refine ⟨by simp, by simp, fun d hd => ?_, fun d hd => ?_, fun d hd => ?_⟩
 all_goals
  simp only [List.mem_cons, List.not_mem_nil, or_false] at hd
 ·rcases hd with rfl | rfl
  ·exact firstN_ok h t
  ·exact h.ok _ hb
 ·rcases hd with rfl | rfl
  ·rfl
  ·exact h.hk _ hb
 ·rcases hd with rfl | rfl
  ·simp [firstN]
  ·exact h.rows _ hb
end Go.Abs
