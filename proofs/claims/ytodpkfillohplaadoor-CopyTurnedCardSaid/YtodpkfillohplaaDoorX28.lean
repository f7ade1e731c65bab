/-
 Chapter 12: copies and their First, compared. No condition beyond those that each theorem names.
-/
import Derived.Test.YtodpkfillohplaaDoorY14
import Derived.Test.YtodpkfillohplaaDoorX7
set_option linter.all false
namespace Go.Abs
set_option maxRecDepth 10000
set_option maxHeartbeats 2000000
theorem first_set {l : List DesN} {hk n : Nat} (h : SetsOk l hk n) (t : Bool) : (firstN t hk n l).Ok where
 h1 := h.k1.1.1
 h24 := h.k1.1.2
 r1 := by have := h.k1.2.1; simp [firstN]; omega
 r60 := by have := h.k1.2.2; simp [firstN]; omega
 lt := fun r hr => by
  obtain ⟨y, hy, rfl⟩ := List.mem_map.1 hr;obtain ⟨q, hq, rfl⟩ := List.mem_map.1 hy;exact turnR_lt (joinAt_lt (n := n) (setsN_row h) (List.mem_range.1 hq))
theorem pair_set {a b : DesN} {hk n : Nat} (ha : a.Ok) (hb : b.Ok) (e1 : a.hk = hk) (e2 : b.hk = hk) (r1 : a.rows.length = n) (r2 : b.rows.length = n) : SetsOk [a, b] hk n where
 l1 := by simp
 l10 := by simp
 ok := fun x hx => by
  simp only [List.mem_cons, List.not_mem_nil, or_false] at hx;rcases hx with rfl | rfl <;> assumption
 hk := fun x hx => by
  simp only [List.mem_cons, List.not_mem_nil, or_false] at hx;rcases hx with rfl | rfl <;> assumption
 rows := fun x hx => by
  simp only [List.mem_cons, List.not_mem_nil, or_false] at hx;rcases hx with rfl | rfl <;> assumption
theorem made_pair {a b : DesN} {hk n : Nat} (ha : a.Ok) (hb : b.Ok) (e1 : a.hk = hk) (e2 : b.hk = hk) (r1 : a.rows.length = n) (r2 : b.rows.length = n) (t : Bool) : lim F 24 [iv (wayOf t), .agg [iv (hk : Int), .list 1 (natsV a.rows)], .agg [iv (hk : Int), .list 1 (natsV b.rows)]] = some (.tuple [.bool (subB (turnL t hk a.rows) (turnL t hk b.rows) n), iv ((lostV (turnL t hk a.rows) (turnL t hk b.rows) n : Nat) : Int), iv 0], []) := by
 have := Made_ok (pair_set ha hb e1 e2 r1 r2) t;unfold setV at this;rw [e1, e2] at this;exact this
end Go.Abs
