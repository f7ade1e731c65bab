/-
 Designs mirrored, flipped, turned and shifted twice: plain Lean, no program in sight.
-/
import Derived.Test.YtkjlmfabhejbnaaDoorM19
import Derived.Test.YtkjlmfabhejbnaaDoorV3
set_option linter.all false
namespace Go.Abs
set_option maxRecDepth 10000

theorem made_is {d : DesN} (hd : d.Ok) {g : Nat → Nat → Bool} (h : ∀ p h, p < d.rows.length → h < d.hk → g p h = atN d p h) : madeN g d.rows.length d.hk = d := by
 rw [madeN_congr h, made_self hd]
theorem mir_len (d : DesN) : (mirrorN d).rows.length = d.rows.length := by simp [mirrorN, madeN]
theorem fli_len (d : DesN) : (flipN d).rows.length = d.rows.length := by simp [flipN, madeN]
theorem bac_len (d : DesN) : (backN d).rows.length = d.rows.length := by simp [backN, madeN]
theorem shi_len (d : DesN) (a b : Nat) : (shiftN d a b).rows.length = d.rows.length := by simp [shiftN, madeN]
theorem mir_at {d : DesN} (hd : d.Ok) (p h : Nat) : atN (mirrorN d) p h = atN d p (d.hk - 1 - h % d.hk) := by
 have hr := hd.r1
 have hh := hd.h1
 unfold mirrorN
 rw [atN_made (by omega) (by omega)]
 exact atN_mod (by rw [Nat.mod_mod]) rfl
theorem fli_at {d : DesN} (hd : d.Ok) (p h : Nat) : atN (flipN d) p h = atN d (d.rows.length - 1 - p % d.rows.length) h := by
 have hr := hd.r1
 have hh := hd.h1
 unfold flipN
 rw [atN_made (by omega) (by omega)]
 exact atN_mod rfl (by rw [Nat.mod_mod])
theorem bac_at {d : DesN} (hd : d.Ok) (p h : Nat) : atN (backN d) p h = !atN d p h := by
 have hr := hd.r1
 have hh := hd.h1
 unfold backN
 rw [atN_made (by omega) (by omega), atN_mod (Nat.mod_mod _ _) (Nat.mod_mod _ _)]
theorem shi_at {d : DesN} (hd : d.Ok) (a b p h : Nat) : atN (shiftN d a b) p h = atN d (p % d.rows.length + d.rows.length - a) (h % d.hk + d.hk - b) := by
 have hr := hd.r1
 have hh := hd.h1
 unfold shiftN
 rw [atN_made (by omega) (by omega)]
theorem mir_twice {d : DesN} (hd : d.Ok) : mirrorN (mirrorN d) = d := by
 have hh := hd.h1
 show madeN _ (mirrorN d).rows.length d.hk = d
 rw [mir_len]
 refine made_is hd fun p h hp hh' => ?_
 rw [mir_at hd]
 show atN d p (d.hk - 1 - (d.hk - 1 - h) % d.hk) = _
 rw [Nat.mod_eq_of_lt (show d.hk - 1 - h < d.hk by omega), show d.hk - 1 - (d.hk - 1 - h) = h by omega]
theorem fli_twice {d : DesN} (hd : d.Ok) : flipN (flipN d) = d := by
 have hh := hd.r1
 show madeN _ (flipN d).rows.length d.hk = d
 have e := fli_len d
 rw [e]
 refine made_is hd fun p h hp hh' => ?_
 rw [fli_at hd, Nat.mod_eq_of_lt (show d.rows.length - 1 - p < d.rows.length by omega), show d.rows.length - 1 - (d.rows.length - 1 - p) = p by omega]
theorem bac_twice {d : DesN} (hd : d.Ok) : backN (backN d) = d := by
 show madeN _ (backN d).rows.length d.hk = d
 rw [bac_len]
 refine made_is hd fun p h hp hh' => ?_
 rw [bac_at hd, Bool.not_not]
theorem turn_mod {n p a : Nat} (ha : a < n) (hp : p < n) : ((p + n - (n - a) % n) % n + n - a) % n = p := by
 rcases Nat.eq_zero_or_pos a with h0 | h0
 ·subst h0
  simp only [Nat.sub_zero, Nat.mod_self, Nat.add_mod_right, Nat.mod_mod, Nat.mod_eq_of_lt hp]
 ·rw [Nat.mod_eq_of_lt (show n - a < n by omega), show p + n - (n - a) = p + a by omega]
  rcases Nat.lt_or_ge (p + a) n with h | h
  ·rw [Nat.mod_eq_of_lt h, show p + a + n - a = p + n by omega, Nat.add_mod_right, Nat.mod_eq_of_lt hp]
  ·rw [Nat.mod_eq_sub_mod h, Nat.mod_eq_of_lt (show p + a - n < n by omega), show p + a - n + n - a = p by omega, Nat.mod_eq_of_lt hp]
theorem shi_twice {d : DesN} (hd : d.Ok) {a b : Nat} (ha : a < d.rows.length) (hb : b < d.hk) : shiftN (shiftN d a b) ((d.rows.length - a) % d.rows.length) ((d.hk - b) % d.hk) = d := by
 show madeN _ (shiftN d a b).rows.length d.hk = d
 rw [shi_len]
 refine made_is hd fun p h hp hh' => ?_
 rw [shi_at hd]
 show atN d ((p + d.rows.length - (d.rows.length - a) % d.rows.length) % d.rows.length + d.rows.length - a) ((h + d.hk - (d.hk - b) % d.hk) % d.hk + d.hk - b) = _
 exact atN_mod (by rw [turn_mod ha hp, Nat.mod_eq_of_lt hp]) (by rw [turn_mod hb hh', Nat.mod_eq_of_lt hh'])
theorem shi_on {d : DesN} (hd : d.Ok) {a b p h : Nat} (ha : a < d.rows.length) (hb : b < d.hk) (hp : p < d.rows.length) (hh : h < d.hk) : atN (shiftN d a b) (p + a) (h + b) = atN d p h := by
 have key : ∀ {n p a : Nat}, a < n → p < n → ((p + a) % n + n - a) % n = p % n := fun {n p a} ha hp => by
  rcases Nat.lt_or_ge (p + a) n with h | h
  ·rw [Nat.mod_eq_of_lt h, show p + a + n - a = p + n by omega, Nat.add_mod_right]
  ·rw [Nat.mod_eq_sub_mod h, Nat.mod_eq_of_lt (show p + a - n < n by omega), show p + a - n + n - a = p by omega]
 rw [shi_at hd]
 exact atN_mod (key ha hp) (key hb hh)
/-- the back differs at each point -/
theorem back_xor {d : DesN} (hd : d.Ok) {i : Nat} (hi : i < d.rows.length) : d.rows.getD i 0 ^^^ (backN d).rows.getD i 0 = 2 ^ d.hk - 1 := by
 have hlt : d.rows.getD i 0 < 2 ^ d.hk := by rw [rows_get hi]; exact hd.lt _ (List.getElem_mem hi)
 have e : (backN d).rows.getD i 0 = rowTo (fun h => !atN d i h) d.hk := by
  unfold backN madeN
  rw [List.getD_eq_getElem?_getD, List.getElem?_map, List.getElem?_range hi]; rfl
 have hp : 0 < 2 ^ d.hk := Nat.pow_pos (by omega)
 rw [e]
 refine row_eq (Nat.xor_lt_two_pow hlt (rowTo_lt _ _)) (by omega) fun j hj => ?_
 rw [Nat.testBit_xor, rowTo_bit, decide_eq_true hj, Bool.true_and, Nat.testBit_two_pow_sub_one, decide_eq_true hj]
 unfold atN
 rw [Nat.mod_eq_of_lt hi, Nat.mod_eq_of_lt hj]
 cases (d.rows.getD i 0).testBit j <;> rfl
theorem bits_full {k n : Nat} (h : k ≤ n) : bitsN (2 ^ k - 1) n = k := by
 unfold bitsN
 obtain ⟨m, rfl⟩ := Nat.exists_eq_add_of_le h
 rw [List.range_add, List.filter_append, List.filter_map]
 have e1 : (List.range k).filter (2 ^ k - 1).testBit = List.range k := by
  rw [List.filter_eq_self]
  intro j hj
  rw [Nat.testBit_two_pow_sub_one, decide_eq_true (List.mem_range.1 hj)]
 have e2 : (List.range m).filter ((2 ^ k - 1).testBit ∘ fun x => k + x) = [] := by
  rw [List.filter_eq_nil_iff]
  intro j _
  simp only [Function.comp, Nat.testBit_two_pow_sub_one]
  simp
 rw [e1, e2]; simp
end Go.Abs
