/-
 Chapter 12, plain law: of which sets so many copies can be made with so many changes: of those that have what all copies have, and few points more.
-/
import Derived.Test.YtodpkfillohplaaDoorX22
set_option linter.all false
namespace Go.Abs
set_option maxRecDepth 10000

def cntF (f : Nat → Bool) : Nat → Nat
 | 0 => 0
 | p + 1 => cntF f p + (f p).toNat
/-- the points of rows, one after another -/
def jfOf (hk : Nat) (j : List Nat) (q : Nat) : Bool := (j.getD (q / hk) 0).testBit (q % hk)
theorem subB_iff {a b : List Nat} {n : Nat} : subB a b n = true ↔ ∀ i, i < n → ∀ q, (atR b i).testBit q = true → (atR a i).testBit q = true := by
 unfold subB
 rw [List.all_eq_true]
 constructor
 ·intro h i hi
  have := h i (List.mem_range.2 hi)
  exact subN_zero.1 (of_decide_eq_true this)
 ·intro h i hi
  exact decide_eq_true (subN_zero.2 (h i (List.mem_range.1 hi)))
theorem join_bit {s : List (List Nat)} {n i q : Nat} (hi : i < n) : (atR (joinN s n) i).testBit q = s.any fun r => (atR r i).testBit q := by
 have e : atR (joinN s n) i = joinAt s i := by
  unfold atR joinN
  rw [List.getD_eq_getElem?_getD, List.getElem?_map, List.getElem?_range hi]
  rfl
 rw [e]
 unfold joinAt
 rw [orAll_bit, List.any_map]
 rfl
theorem sub_join {s : List (List Nat)} {n : Nat} {x : List Nat} : (∀ k, k < s.length → subB x (s.getD k []) n = true) ↔ subB x (joinN s n) n = true := by
 constructor
 ·intro h
  rw [subB_iff]
  intro i hi q hq
  rw [join_bit hi, List.any_eq_true] at hq
  obtain ⟨r, hr, hq⟩ := hq
  obtain ⟨k, hk, rfl⟩ := List.getElem_of_mem hr
  have := h k hk
  rw [subB_iff, List.getD_eq_getElem?_getD, List.getElem?_eq_getElem hk] at this
  exact this i hi q hq
 ·intro h k hk
  rw [subB_iff] at h ⊢
  intro i hi q hq
  refine h i hi q ?_
  rw [join_bit hi, List.any_eq_true]
  refine ⟨s.getD k [], ?_, hq⟩
  rw [List.getD_eq_getElem?_getD, List.getElem?_eq_getElem hk]
  exact List.getElem_mem hk
theorem lt_flat {hk n i h : Nat} (hi : i < n) (hh : h < hk) : i * hk + h < hk * n := by
 have : (i + 1) * hk ≤ n * hk := Nat.mul_le_mul_right hk (by omega)
 rw [Nat.add_mul, Nat.mul_comm n hk] at this
 omega
theorem lists_eq {f : Nat → Nat} {n : Nat} {L : List Nat} (hL : L.length = n) (h : ∀ i, i < n → f i = L.getD i 0) : upTo f n = L := by
 apply List.ext_getElem?
 intro i
 by_cases hi : i < n
 ·have e : (upTo f n)[i]? = some (f i) := by simp [upTo, hi]
  rw [e, h i hi, List.getD_eq_getElem?_getD, List.getElem?_eq_getElem (by omega)]
  rfl
 ·rw [List.getElem?_eq_none (by simp [upTo]; omega), List.getElem?_eq_none (by omega)]
end Go.Abs
