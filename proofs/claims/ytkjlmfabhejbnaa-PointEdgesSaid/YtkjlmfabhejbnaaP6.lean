/-
 Chapter 1: Floats and Proof. No condition beyond those that each theorem names.
-/
import Derived.Test.YtkjlmfabhejbnaaP5
set_option linter.all false
namespace Go.Abs
set_option maxRecDepth 10000
set_option maxHeartbeats 4000000

theorem run_in {l : List Bool} (h0 : 0 < l.length) (hl : l.length ≤ 1000) {x : RunT} (hx : x ∈ runsT l) : x.first < l.length ∧ 1 ≤ x.len ∧ x.len ≤ 1000 := by
 unfold runsT at hx
 rcases List.mem_append.1 hx with h | h
 ·unfold runsTo at h
  obtain ⟨i, hi, rfl⟩ := List.mem_map.1 h
  obtain ⟨h1, h2⟩ := List.mem_filter.1 hi
  have := lenT_is h2
  have h3 := this.pos
  have h4 := this.lt
  unfold runAt
  exact ⟨List.mem_range.1 h1, h3, by dsimp only; omega⟩
 ·unfold lastT at h
  split at h
  ·cases h
  ·rw [List.mem_singleton.1 h]; exact ⟨h0, by dsimp only; omega, by dsimp only; omega⟩
structure FIn (N H : Nat) (f : FloatT) : Prop where
 p : 0 ≤ f.pick ∧ f.pick < N
 h : 0 ≤ f.hook ∧ f.hook < H
 l : 1 ≤ f.len ∧ f.len ≤ 1000
theorem weft_in {d : DesN} (hd : d.Ok) {f : FloatT} (hf : f ∈ weftF d) : FIn d.rows.length d.hk f := by
 unfold weftF flTo at hf
 obtain ⟨i, hi, hf⟩ := List.mem_flatMap.1 hf
 obtain ⟨x, hx, rfl⟩ := List.mem_map.1 hf
 have hp := pickR_pos hd i
 have h1 := run_in hp.1 hp.2 hx
 rw [pickR_len] at h1
 have := List.mem_range.1 hi
 exact ⟨⟨Int.natCast_nonneg _, by unfold floatW; dsimp only; omega⟩, ⟨Int.natCast_nonneg _, by unfold floatW; dsimp only; omega⟩, ⟨by unfold floatW; dsimp only; omega, by unfold floatW; dsimp only; omega⟩⟩
theorem warp_in {d : DesN} (hd : d.Ok) {f : FloatT} (hf : f ∈ warpF d) : FIn d.rows.length d.hk f := by
 unfold warpF flTo at hf
 obtain ⟨i, hi, hf⟩ := List.mem_flatMap.1 hf
 obtain ⟨x, hx, rfl⟩ := List.mem_map.1 hf
 have hp := hookR_pos hd i
 have h1 := run_in hp.1 hp.2 hx
 rw [hookR_len] at h1
 have := List.mem_range.1 hi
 exact ⟨⟨Int.natCast_nonneg _, by unfold floatH; dsimp only; omega⟩, ⟨Int.natCast_nonneg _, by unfold floatH; dsimp only; omega⟩, ⟨by unfold floatH; dsimp only; omega, by unfold floatH; dsimp only; omega⟩⟩

def filF (l : List FloatT) (b : Int) (i : Nat) : List AV := (((l.take i).filter fun f => decide (b < f.len)).map FloatT.av)
theorem filF_succ {l : List FloatT} {b : Int} {i : Nat} (h : i < l.length) : filF l b (i + 1) = filF l b i ++ if b < l[i].len then [l[i].av] else [] := by
 unfold filF
 rw [List.take_succ_eq_append_getElem h, List.filter_append, List.map_append]
 congr 1
 by_cases hb : b < l[i].len <;> simp [hb]
theorem runs_len {l : List Bool} (hl : l.length ≤ 1000) : (runsT l).length ≤ 1000 := by
 have h1 : (runsTo l l.length).length ≤ l.length := by
  unfold runsTo
  rw [List.length_map]
  have := List.length_filter_le (begs l) (List.range l.length)
  rwa [List.length_range] at this
 unfold runsT lastT
 rw [List.length_append]
 split
 ·simp; omega
 ·rename_i h
  have : runsTo l l.length = [] := (anyTo_runs l _).1 (by simpa using h)
  rw [this]; simp
theorem flTo_len (R : Nat → List Bool) (mk : Nat → RunT → FloatT) (hR : ∀ i, (R i).length ≤ 1000) (n : Nat) : (flTo R mk n).length ≤ n * 1000 := by
 induction n with
 | zero => simp [flTo]
 | succ n ih =>
  rw [flTo_succ, List.length_append, List.length_map]
  have := runs_len (hR n)
  omega
theorem weft_len {d : DesN} (hd : d.Ok) : (weftF d).length ≤ 60000 := by
 have h := flTo_len (pickR d) floatW (fun i => (pickR_pos hd i).2) d.rows.length
 have := hd.r60
 unfold weftF; omega
theorem warp_len {d : DesN} (hd : d.Ok) : (warpF d).length ≤ 60000 := by
 have h := flTo_len (hookR d) floatH (fun i => (hookR_pos hd i).2) d.hk
 have := hd.h24
 unfold warpF; omega
theorem filF_len (l : List FloatT) (b : Int) (i : Nat) : (filF l b i).length ≤ l.length := by
 unfold filF
 rw [List.length_map]
 exact Nat.le_trans (List.length_filter_le _ _) (by rw [List.length_take]; omega)
theorem fl_plain (l : List FloatT) : (l.map FloatT.av).all AV.plain = true := by
 simp [FloatT.av, AV.plain, AV.plain1]
end Go.Abs
