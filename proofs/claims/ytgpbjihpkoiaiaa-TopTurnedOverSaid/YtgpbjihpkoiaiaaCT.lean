/-
 Chapter 2: chains all of whose cards lie turned, and chains that are taken backwards. No condition beyond those that each theorem names.
-/
import Derived.Test.YtgpbjihpkoiaiaaCM
import Derived.Test.YtgpbjihpkoiaiaaU1
set_option linter.all false
namespace Go.Abs
set_option maxRecDepth 10000
set_option maxHeartbeats 4000000
theorem posW_one {n f : Nat} (hf : f < n) (k : Nat) : ∀ i, i ≤ k → posW n f (List.replicate k 1) i = (f + i) % n
 | 0, _ => by simp [posW, Nat.mod_eq_of_lt hf]
 | i + 1, hi => by
  rw [posW, posW_one hf k i (by omega), List.getElem?_replicate, if_pos (by omega)]
  simp only [Option.getD_some, Nat.mod_add_mod]
  congr 1
theorem mirR_lt (hk r : Nat) : mirR hk r < 2 ^ hk := rowTo_lt _ _
theorem mirror_rows {d : DesN} (hd : d.Ok) : (mirrorN d).rows = d.rows.map (mirR d.hk) := by
 unfold mirrorN madeN;apply List.ext_getElem
 ·simp
 ·intro q h1 h2
  have hq : q < d.rows.length := by simpa using h2
  have hh := hd.h1;rw [List.getElem_map, List.getElem_range, List.getElem_map];apply rowTo_congr;intro j hj;dsimp only;unfold atN;rw [Nat.mod_eq_of_lt hq, Nat.mod_eq_of_lt (by omega), rows_get hq]
def turnN (d : DesN) (k : Nat) : BeltN := ⟨d.hk, d.rows.zipIdx.map fun p => ⟨p.2, p.1, decide (p.2 < k)⟩⟩
def backsN (d : DesN) : BeltN := ⟨d.hk, (punchN d).cards.reverse⟩
theorem turn_len (d : DesN) (k : Nat) : (turnN d k).cards.length = d.rows.length := by simp [turnN]
theorem turn_zero (d : DesN) : turnN d 0 = punchN d := by simp [turnN, punchN]
theorem turn_at (d : DesN) (k i : Nat) (h : i < d.rows.length) : (turnN d k).cards[i]? = some ⟨i, d.rows.getD i 0, decide (i < k)⟩ := by
 unfold turnN;rw [List.getElem?_map, List.getElem?_zipIdx, List.getElem?_eq_getElem h, List.getD_eq_getElem?_getD, List.getElem?_eq_getElem h];simp
theorem turn_ok (d : DesN) (hd : d.Ok) (k : Nat) : (turnN d k).Ok where
 h1 := hd.h1
 h24 := hd.h24
 c1 := by rw [turn_len]; exact hd.r1
 c60 := by rw [turn_len]; exact hd.r60
 lt := fun c hc => by
  obtain ⟨p, hp, rfl⟩ := List.mem_map.1 hc;obtain ⟨r, i⟩ := p;rw [List.mem_zipIdx_iff_getElem?] at hp;have := (List.getElem?_eq_some_iff.1 hp).1;have := hd.r60;exact ⟨by simp only; omega, hd.lt _ (List.mem_of_getElem? hp)⟩
end Go.Abs
