/-
 Several texts: LOwn, LLike.
-/
import Derived.Test.YtodpkfillohplaaDoorX28
import Derived.Test.YtodpkfillohplaaDoorW5
import Derived.Test.YtodpkfillohplaaDoorY16
set_option linter.all false
namespace Go.Abs
set_option maxRecDepth 10000
set_option maxHeartbeats 8000000
theorem ownS_ok {l : List DesN} {hk n : Nat} (h : SetsOk l hk n) : lim F 15 [.list 2 (l.map setV)] = some (.ownT 2 (l.map tvN), []) := by
 have h10 := h.l10;exact ownN_ok l (by omega) (fun d hd => by have := (h.ok d hd).r60; omega)
theorem tvN_fe (l : List DesN) : (l.map tvN).map AV.tabFe = l.map setV := by
 rw [List.map_map]; rfl
end Go.Abs
set_option linter.all false
namespace Go.Abs
set_option maxRecDepth 10000
set_option maxHeartbeats 8000000
theorem like_agg {x : PressB} {d : DesN} (h : LikeO x d) : setV d = .agg [iv ((origN x).hk : Int), .list 1 (natsV d.rows)] := by
 unfold setV; rw [h.hk]
theorem first_like (x : PressB) {N : Nat} (hS : SetsOk (madeTo x N).l (origN x).hk (origN x).rows.length) : LikeO x (firstN (wayB x) (origN x).hk (origN x).rows.length (madeTo x N).l) :=
 ⟨first_set hS _, rfl, by simp [firstN]⟩
theorem differ_like {x : PressB} {a b : DesN} (ha : LikeO x a) (hb : LikeO x b) : lim F 52 [.agg [iv ((origN x).hk : Int), .list 1 (natsV a.rows)], .agg [iv ((origN x).hk : Int), .list 1 (natsV b.rows)]] = some (iv ((diffN a b : Nat) : Int), []) := by
 have h := differ_ok ha.ok hb.ok (by rw [ha.rows, hb.rows])
 rw [like_agg ha, like_agg hb] at h;exact h
theorem sized_like {x : PressB} {a b : DesN} (ha : LikeO x a) (hb : LikeO x b) : lim F 51 [.agg [iv ((origN x).hk : Int), .list 1 (natsV a.rows)], .agg [iv ((origN x).hk : Int), .list 1 (natsV b.rows)]] = some (.bool true, []) := by
 have h := sized_set ha.ok (by rw [ha.hk, hb.hk]) (show a.rows.length = b.rows.length by rw [ha.rows, hb.rows])
 rw [like_agg ha, like_agg hb] at h;exact h
theorem within_like {x : PressB} {a b : DesN} (ha : LikeO x a) (hb : LikeO x b) (h : ∀ q j, (a.rows.getD q 0).testBit j = true → (b.rows.getD q 0).testBit j = true) : lim F 53 [.agg [iv ((origN x).hk : Int), .list 1 (natsV a.rows)], .agg [iv ((origN x).hk : Int), .list 1 (natsV b.rows)]] = some (.bool true, []) := by
 have h := within_set ha.ok hb.ok (by rw [ha.rows, hb.rows]) h
 rw [like_agg ha, like_agg hb] at h;exact h
end Go.Abs
