/-
 Lengths that are cut by a design's least repeat: plain Lean. No condition beyond those that each theorem names.
-/
import Derived.Test.YtgpbjihpkoiaiaaCS
import Derived.Test.YtgpbjihpkoiaiaaZS27
import Derived.Test.YtgpbjihpkoiaiaaM18
set_option linter.all false
namespace Go.Abs
set_option maxRecDepth 10000
theorem row_period {d : DesN} (hd : d.Ok) (p : Nat) : d.rows.getD (p % d.rows.length) 0 = d.rows.getD (p % leastP d) 0 := by
 obtain ⟨⟨a1, a2, a3⟩, -, h⟩ := least_facts hd;have hn := hd.r1;have e : p % d.rows.length % leastP d = p % leastP d := Nat.mod_mod_of_dvd _ (Nat.dvd_of_mod_eq_zero a3);have l1 := Nat.mod_lt p (show 0 < d.rows.length by omega)
 have l2 : p % leastP d < d.rows.length := Nat.lt_of_lt_of_le (Nat.mod_lt _ (by omega)) a2
 have m1 := hd.lt _ (show d.rows.getD (p % d.rows.length) 0 ∈ d.rows by rw [List.getD_eq_getElem?_getD, List.getElem?_eq_getElem l1]; exact List.getElem_mem l1)
 have m2 := hd.lt _ (show d.rows.getD (p % leastP d) 0 ∈ d.rows by rw [List.getD_eq_getElem?_getD, List.getElem?_eq_getElem l2]; exact List.getElem_mem l2)
 refine row_eq m1 m2 fun j hj => ?_
 have h1 := h (p % d.rows.length) j l1 hj;have h2 := h (p % leastP d) j l2 hj;rw [e] at h1;rw [Nat.mod_mod] at h2;have h3 := h1.trans h2.symm;simpa [atN, Nat.mod_mod, Nat.mod_eq_of_lt hj, Nat.mod_eq_of_lt l2] using h3
def badN (l : List ByteB) (i : Nat) : Nat := ((l.take i).map fun b => 1 + b.1 % 40).sum
def noneN (l : List ByteB) (k : Nat) : List Nat := (List.range k).map fun i => badN l (i + 1)
theorem badN_succ (l : List ByteB) {i : Nat} (h : i < l.length) : badN l (i + 1) = badN l i + (1 + l[i].1 % 40) := by
 unfold badN;rw [List.take_succ_eq_append_getElem h, List.map_append, List.sum_append]; simp
theorem badN_le (l : List ByteB) : ∀ i, badN l i ≤ 40 * i
 | 0 => by simp [badN]
 | i + 1 => by
  by_cases h : i < l.length
  ·rw [badN_succ l h]
   have := badN_le l i;have := Nat.mod_lt (l[i].1) (show 0 < 40 by omega)
   omega
  ·have e : badN l (i + 1) = badN l i := by
    unfold badN;rw [List.take_of_length_le (by omega), List.take_of_length_le (by omega)]
   have := badN_le l i;omega
theorem noneN_succ (l : List ByteB) (k : Nat) : noneN l (k + 1) = noneN l k ++ [badN l (k + 1)] := by
 unfold noneN; rw [List.range_succ, List.map_append]; rfl
@[simp] theorem noneN_len (l : List ByteB) (k : Nat) : (noneN l k).length = k := by simp [noneN]
theorem noneN_at (l : List ByteB) {k i : Nat} (h : i < k) : (noneN l k)[i]? = some (badN l (i + 1)) := by
 unfold noneN; rw [List.getElem?_map, List.getElem?_range h]; rfl
open Seam in
theorem cutsE_ok {r : Int} {bad : List Int} {l : List Cut} (h : CutsOk r bad l) (hu : ∀ i : Nat, i + 1 < bad.length → bad[i]?.getD 0 < bad[i + 1]?.getD 0) : cutsE r bad l = 0 := by
 have := h.lb; have := h.ll
 unfold cutsE;rw [if_neg (by simp [h.rr]), if_neg (by omega), if_neg, if_neg, if_neg]
 ·rintro ⟨i, hi, hq⟩
  have := hu i hi;omega
 ·rw [Bool.not_eq_true, List.any_eq_false]
  intro c hc;have := h.cc c hc;simp only [decide_eq_true_eq, CutBad];omega
 ·rw [Bool.not_eq_false, List.all_eq_true]
  intro b hb;exact decide_eq_true (h.bb b hb)
def cuts4 (b : Nat) (p : Nat → Nat) (k : Nat) : List Seam.Cut := (List.range k).map fun i => ⟨(b : Int), ((p i : Nat) : Int)⟩
theorem cuts4_succ (b : Nat) (p : Nat → Nat) (k : Nat) : cuts4 b p (k + 1) = cuts4 b p k ++ [⟨(b : Int), ((p k : Nat) : Int)⟩] := by
 unfold cuts4; rw [List.range_succ, List.map_append]; rfl
@[simp] theorem cuts4_len (b : Nat) (p : Nat → Nat) (k : Nat) : (cuts4 b p k).length = k := by simp [cuts4]
theorem cuts4_at (b : Nat) (p : Nat → Nat) {k i : Nat} (h : i < k) : (cuts4 b p k)[i]? = some ⟨(b : Int), ((p i : Nat) : Int)⟩ := by
 unfold cuts4; rw [List.getElem?_map, List.getElem?_range h]; rfl
open Seam in
theorem cut4_ok (r b : Nat) (bl : List ByteB) (m : Nat) (hm : m ≤ 6) (p : Nat → Nat) (hr : 1 ≤ r ∧ r ≤ 100) (hb : b < r) (hp : ∀ i, i < 4 → 1 ≤ p i ∧ p i ≤ 20) (hml : m ≤ bl.length) :
  ∃ (st : Nat → Nat) (need : Int), lim F 40 [iv (r : Int), .list 1 (natsV (noneN bl m)), .list 2 ((cuts4 b p 4).map Cut.av)] = some (.tuple [.own 1 ((List.range 4).map fun i => iv ((st i : Nat) : Int)), iv need, iv 0], []) ∧ need ≤ 200000 ∧
   ∀ i, i < 4 → st i % r = b ∧ ((st i + p i : Nat) : Int) ≤ need ∧ ∀ j, j < m → ¬ (st i ≤ badN bl (j + 1) ∧ badN bl (j + 1) < st i + p i) := by
 have hv : CutsOk (r : Int) ((noneN bl m).map fun n : Nat => (n : Int)) (cuts4 b p 4) := ⟨by omega, by simp; omega, by simp, fun y hy => by
   obtain ⟨n, hn, rfl⟩ := List.mem_map.1 hy;obtain ⟨i, hi, rfl⟩ := List.mem_map.1 hn;have := List.mem_range.1 hi;have := badN_le bl (i + 1);omega, fun c hc => by
   obtain ⟨i, hi, rfl⟩ := List.mem_map.1 hc;have := hp i (List.mem_range.1 hi);simp only;omega⟩
 have he := cutsE_ok hv (fun i hi => by
  simp only [List.length_map, noneN_len] at hi;rw [List.getElem?_map, List.getElem?_map, noneN_at bl (show i < m by omega), noneN_at bl hi]
  have := badN_succ bl (show i + 1 < bl.length by omega)
  simp only [Option.map_some, Option.getD_some];omega)
 obtain ⟨q, h1, st, need, rfl, hbest, hf⟩ := Cut_ok _ _ _ he;have hnb := (best_bound hv (by omega) hbest).2
 have hl : st.length = 4 := by rw [hf.len]; simp
 have hpos : ∀ i, i < 4 → 0 ≤ stAt st i := fun i hi => (hf.each i (by simpa using hi)).pos
 refine ⟨fun i => (stAt st i).toNat, need, ?_, by omega, fun i hi => ?_⟩
 ·have e1 : natsV (noneN bl m) = ((noneN bl m).map fun n : Nat => (n : Int)).map fun n => iv n := by
   unfold natsV; rw [List.map_map]; rfl
  rw [e1, h1];have e2 : (st.map fun n => iv n) = (List.range 4).map fun i => iv (((stAt st i).toNat : Nat) : Int) := by
   apply List.ext_getElem
   ·simp [hl]
   ·intro i h2 h3
    have hi : i < 4 := by simpa using h3
    have := hpos i hi;rw [List.getElem_map, List.getElem_map, List.getElem_range, Int.toNat_of_nonneg this];unfold stAt;rw [List.getElem?_eq_getElem (by omega)]; rfl
  rw [e2]
 ·have h2 := hf.each i (by simpa using hi)
  have hc : cutAt (cuts4 b p 4) i = ⟨(b : Int), ((p i : Nat) : Int)⟩ := by unfold cutAt; rw [cuts4_at b p hi]; rfl
  rw [hc] at h2;have h3 := hpos i hi;have h4 := h2.rem;have h5 := h2.fin;have h6 := h2.fine;simp only at h4 h5 h6;dsimp only;have h4' : (stAt st i).toNat % r = b := by
   have e1 : (((stAt st i).toNat % r : Nat) : Int) = (b : Int) := by
    rw [Int.natCast_emod, Int.toNat_of_nonneg h3]; exact h4
   omega
  refine ⟨h4', by omega, fun j hj hq => ?_⟩
  have h7 := h6 ((badN bl (j + 1) : Nat) : Int) (List.mem_map.2 ⟨badN bl (j + 1), List.mem_of_getElem? (noneN_at bl hj), rfl⟩);omega
end Go.Abs
