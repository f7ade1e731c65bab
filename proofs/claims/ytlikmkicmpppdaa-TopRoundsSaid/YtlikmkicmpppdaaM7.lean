/-
 Longest floats of turned and shifted points, in plain Lean: no program in sight.
-/
import Derived.Test.YtlikmkicmpppdaaU1
import Derived.Test.YtlikmkicmpppdaaV0
import Derived.Test.YtlikmkicmpppdaaM15
set_option linter.all false
namespace Go.Abs
set_option maxRecDepth 10000
def SameRuns (l l' : List Bool) : Prop := ∀ x ∈ runsT l, ∃ y ∈ runsT l', y.up = x.up ∧ y.len = x.len
theorem same_refl (l : List Bool) : SameRuns l l := fun x hx => ⟨x, hx, rfl, rfl⟩
theorem mx_in {b : Bool} {l : List FloatT} : 0 ≤ mxF b l ∧ ∀ f ∈ l, f.up = b → f.len ≤ mxF b l := by
 have key : ∀ (l : List FloatT) (m : Int), m ≤ l.foldl (mxStep b) m ∧ ∀ f ∈ l, f.up = b → f.len ≤ l.foldl (mxStep b) m := by
  intro l;induction l with
  | nil => intro m; exact ⟨Int.le_refl _, by simp⟩
  | cons g l ih =>
   intro m;rw [List.foldl_cons];obtain ⟨h1, h2⟩ := ih (mxStep b m g);have h3 : m ≤ mxStep b m g := by unfold mxStep; split <;> omega
   refine ⟨by omega, fun f hf hb => ?_⟩
   rcases List.mem_cons.1 hf with rfl | hf
   ·have : f.len ≤ mxStep b m f := by unfold mxStep; rw [if_pos hb]; omega
    omega
   ·exact h2 f hf hb
 exact key l 0
theorem mx_le {b : Bool} {l : List FloatT} {m : Int} (h0 : 0 ≤ m) (h : ∀ f ∈ l, f.up = b → f.len ≤ m) : mxF b l ≤ m := by
 have key : ∀ (l : List FloatT) (k : Int), k ≤ m → (∀ f ∈ l, f.up = b → f.len ≤ m) → l.foldl (mxStep b) k ≤ m := by
  intro l;induction l with
  | nil => intro k hk _; exact hk
  | cons g l ih =>
   intro k hk hl;rw [List.foldl_cons];refine ih _ ?_ fun f hf => hl f (by simp [hf])
   unfold mxStep;split
   ·rename_i hb
    have := hl g (by simp) hb
    omega
   ·exact hk
 exact key l 0 h0 h
structure Keeps (mk : Nat → RunT → FloatT) : Prop where
 up : ∀ i x, (mk i x).up = x.up
 len : ∀ i x, (mk i x).len = x.len
theorem keepsW : Keeps floatW := ⟨fun _ _ => rfl, fun _ _ => rfl⟩
theorem keepsH : Keeps floatH := ⟨fun _ _ => rfl, fun _ _ => rfl⟩
theorem mx_same {R R' : Nat → List Bool} {mk mk' : Nat → RunT → FloatT} (hk : Keeps mk) (hk' : Keeps mk') {N N' : Nat} (h : ∀ i, i < N → ∃ j, j < N' ∧ SameRuns (R i) (R' j)) (b : Bool) : mxF b (flTo R mk N) ≤ mxF b (flTo R' mk' N') := by
 refine mx_le mx_in.1 fun f hf hb => ?_
 unfold flTo at hf;obtain ⟨i, hi, hf⟩ := List.mem_flatMap.1 hf;obtain ⟨x, hx, rfl⟩ := List.mem_map.1 hf;obtain ⟨j, hj, hs⟩ := h i (List.mem_range.1 hi);obtain ⟨y, hy, h1, h2⟩ := hs x hx;rw [hk.up] at hb;rw [hk.len, ← h2, ← hk'.len j y];refine mx_in.2 _ ?_ (by rw [hk'.up, h1, hb])
 unfold flTo;exact List.mem_flatMap.2 ⟨j, List.mem_range.2 hj, List.mem_map.2 ⟨y, hy, rfl⟩⟩
structure LikeD (d e : DesN) : Prop where
 ok : d.Ok
 ok' : e.Ok
 w : ∀ i, i < d.rows.length → ∃ j, j < e.rows.length ∧ SameRuns (pickR d i) (pickR e j)
 w' : ∀ i, i < e.rows.length → ∃ j, j < d.rows.length ∧ SameRuns (pickR e i) (pickR d j)
 h : ∀ i, i < d.hk → ∃ j, j < e.hk ∧ SameRuns (hookR d i) (hookR e j)
 h' : ∀ i, i < e.hk → ∃ j, j < d.hk ∧ SameRuns (hookR e i) (hookR d j)
theorem LikeD.weft {d e : DesN} (h : LikeD d e) (b : Bool) : mxF b (weftF e) = mxF b (weftF d) := Int.le_antisymm (mx_same keepsW keepsW h.w' b) (mx_same keepsW keepsW h.w b)
theorem LikeD.warp {d e : DesN} (h : LikeD d e) (b : Bool) : mxF b (warpF e) = mxF b (warpF d) := Int.le_antisymm (mx_same keepsH keepsH h.h' b) (mx_same keepsH keepsH h.h b)
end Go.Abs
