/-
  The floats of the back of a design, in plain Lean: no program in sight.
-/
import Derived.Test.YtkjlmfabhejbnaaM7
set_option linter.all false
namespace Go.Abs
set_option maxRecDepth 10000

theorem gb_not {l : List Bool} (h : 0 < l.length) (i : Nat) : gb (l.map not) i = !gb l i := by
  have hm := Nat.mod_lt i h
  unfold gb
  rw [List.length_map, List.getD_eq_getElem?_getD, List.getD_eq_getElem?_getD, List.getElem?_map, List.getElem?_eq_getElem hm]; rfl
theorem begs_not {l : List Bool} (h : 0 < l.length) (i : Nat) : begs (l.map not) i = begs l i := by
  unfold begs
  rw [gb_not h, gb_not h, List.length_map]
  cases gb l i <;> cases gb l (i + l.length - 1) <;> rfl
theorem lenT_not {l : List Bool} (h : 0 < l.length) (i : Nat) : lenT (l.map not) i = lenT l i := by
  unfold lenT
  rw [List.length_map]
  congr 2
  funext k
  rw [gb_not h, gb_not h]
  cases gb l (i + 1 + k) <;> cases gb l i <;> rfl
def RunT.neg (x : RunT) : RunT := ⟨x.first, x.len, !x.up⟩
def FloatT.neg (f : FloatT) : FloatT := ⟨f.pick, f.hook, f.len, !f.up⟩
theorem runsT_not {l : List Bool} (h : 0 < l.length) : runsT (l.map not) = (runsT l).map RunT.neg := by
  have ea : anyTo (l.map not) (l.map not).length = anyTo l l.length := by
    unfold anyTo
    rw [List.length_map]
    congr 1
    funext i
    exact begs_not h i
  have er : runsTo (l.map not) (l.map not).length = (runsTo l l.length).map RunT.neg := by
    unfold runsTo
    rw [List.length_map, List.map_map, show begs (l.map not) = begs l from funext fun i => begs_not h i]
    apply List.map_congr_left
    intro i _
    unfold runAt
    simp only [Function.comp, RunT.neg]
    rw [lenT_not h, gb_not h]
  unfold runsT lastT
  rw [ea, er, List.map_append, gb_not h]
  split <;> rfl
theorem flTo_not {R R' : Nat → List Bool} {mk : Nat → RunT → FloatT} {n : Nat} (hR : ∀ i, i < n → 0 < (R i).length ∧ R' i = (R i).map not) (hmk : ∀ i x, mk i x.neg = (mk i x).neg) : flTo R' mk n = (flTo R mk n).map FloatT.neg := by
  unfold flTo
  rw [List.map_flatMap]
  have : ∀ i ∈ List.range n, (runsT (R' i)).map (mk i) = ((runsT (R i)).map (mk i)).map FloatT.neg := fun i hi => by
    obtain ⟨h1, h2⟩ := hR i (List.mem_range.1 hi)
    rw [h2, runsT_not h1, List.map_map, List.map_map]
    exact List.map_congr_left fun x _ => hmk i x
  generalize List.range n = l at *
  induction l with
  | nil => rfl
  | cons a l ih => rw [List.flatMap_cons, List.flatMap_cons, this a (by simp), ih fun i hi => this i (by simp [hi])]
theorem back_pick {d : DesN} (hd : d.Ok) {i : Nat} (hi : i < d.rows.length) : pickR (backN d) i = (pickR d i).map not := by
  have hr := hd.r1
  have hh := hd.h1
  apply List.ext_getElem
  · rw [pickR_len, List.length_map, pickR_len]; rfl
  · intro h h1 h2
    rw [pickR_len] at h1
    have h3 : h < d.hk := h1
    rw [← gb_lt (by rw [pickR_len]; exact h1), List.getElem_map, ← gb_lt (by rw [pickR_len]; exact h3), atN_pick (back_ok hd) (by rw [show (backN d).rows.length = d.rows.length from made_len _ _ _]; exact hi), atN_pick hd hi]
    unfold backN
    rw [atN_made (by omega) (by omega), Nat.mod_eq_of_lt hi, Nat.mod_eq_of_lt h3]
theorem back_hook {d : DesN} (hd : d.Ok) {h : Nat} (hh' : h < d.hk) : hookR (backN d) h = (hookR d h).map not := by
  have hr := hd.r1
  have hh := hd.h1
  have hL : (backN d).rows.length = d.rows.length := made_len _ _ _
  apply List.ext_getElem
  · rw [hookR_len, List.length_map, hookR_len, hL]
  · intro i h1 h2
    rw [hookR_len, hL] at h1
    rw [← gb_lt (by rw [hookR_len, hL]; exact h1), List.getElem_map, ← gb_lt (by rw [hookR_len]; exact h1), atN_hook (back_ok hd) hh', atN_hook hd hh']
    unfold backN
    rw [atN_made (by omega) (by omega), Nat.mod_eq_of_lt h1, Nat.mod_eq_of_lt hh']
theorem back_weft {d : DesN} (hd : d.Ok) : weftF (backN d) = (weftF d).map FloatT.neg := by
  unfold weftF
  rw [show (backN d).rows.length = d.rows.length from made_len _ _ _]
  exact flTo_not (fun i hi => ⟨by rw [pickR_len]; exact hd.h1, back_pick hd hi⟩) fun _ _ => rfl
theorem back_warp {d : DesN} (hd : d.Ok) : warpF (backN d) = (warpF d).map FloatT.neg := by
  unfold warpF
  rw [show (backN d).hk = d.hk from rfl]
  exact flTo_not (fun i hi => ⟨by rw [hookR_len]; exact hd.r1, back_hook hd hi⟩) fun _ _ => rfl
theorem filter_neg (l : List FloatT) (b : Int) : ((l.map FloatT.neg).filter fun f => decide (b < f.len)) = (l.filter fun f => decide (b < f.len)).map FloatT.neg := by
  rw [List.filter_map]; rfl
theorem mxF_neg (l : List FloatT) (b : Bool) : mxF b (l.map FloatT.neg) = mxF (!b) l := by
  apply Int.le_antisymm
  · refine mx_le mx_in.1 fun f hf hb => ?_
    obtain ⟨g, hg, rfl⟩ := List.mem_map.1 hf
    exact mx_in.2 g hg (by rw [← hb]; simp [FloatT.neg])
  · refine mx_le mx_in.1 fun f hf hb => ?_
    exact (mx_in (b := b)).2 f.neg (List.mem_map.2 ⟨f, hf, rfl⟩) (by simp [FloatT.neg, hb])
end Go.Abs
