/-
 Chapter 1: the search along a row: its parts. No condition beyond those that each theorem names.
-/
import Derived.Test.YtkjlmfabhejbnaaP4
import Derived.Test.YtkjlmfabhejbnaaM10
import Derived.Test.YtkjlmfabhejbnaaWpE
set_option linter.all false
namespace Go.Abs
set_option maxRecDepth 10000
set_option maxHeartbeats 4000000

abbrev ksB : List Bool := [true, true, true, false]
theorem bit_ok (b : Bool) : lim F 99 [.bool b] = some (iv (if b then 1 else 0), []) := by
 cases b
 ·refine lim_by (fn := a99) (k := 1) (res := [.tmp 2]) rfl rfl rfl (by simp -implicitDefEqProofs (maxSteps := 2000000) (disch := first | exact tt_rfl rfl | omega | (simp only [go_sem] <;> omega) | fail) only [go_sem]) ?_
  simp -implicitDefEqProofs (maxSteps := 2000000) (disch := first | exact tt_rfl rfl | omega | (simp only [go_sem] <;> omega) | fail) only [go_sem]
  repeat (first | apply Wp.seqA | apply Wp.skipS | apply Wp.blockS | ((first | apply Wp.regS | apply Wp.condV | apply Wp.reg | apply Wp.condW | apply fin_ret); simp -implicitDefEqProofs (maxSteps := 2000000) (disch := first | exact tt_rfl rfl | omega | (simp only [go_sem] <;> omega) | fail) only [go_sem] <;> try with_reducible rfl) | apply Wp.block | apply Wp.exitS | apply Wp.retS | apply Wp.exit | apply Wp.ret | apply Wp.skip)
 ·refine lim_by (fn := a99) (k := 1) (res := [.tmp 2]) rfl rfl rfl (by simp -implicitDefEqProofs (maxSteps := 2000000) (disch := first | exact tt_rfl rfl | omega | (simp only [go_sem] <;> omega) | fail) only [go_sem]) ?_
  simp -implicitDefEqProofs (maxSteps := 2000000) (disch := first | exact tt_rfl rfl | omega | (simp only [go_sem] <;> omega) | fail) only [go_sem]
  repeat (first | apply Wp.seqA | apply Wp.skipS | apply Wp.blockS | ((first | apply Wp.regS | apply Wp.condV | apply Wp.reg | apply Wp.condW | apply fin_ret); simp -implicitDefEqProofs (maxSteps := 2000000) (disch := first | exact tt_rfl rfl | omega | (simp only [go_sem] <;> omega) | fail) only [go_sem] <;> try with_reducible rfl) | apply Wp.block | apply Wp.exitS | apply Wp.retS | apply Wp.exit | apply Wp.ret | apply Wp.skip)
theorem start_ok (row fixed H b : Nat) (t0 t : Bool) (M : AV) (hM : M = .const (.map none) ∨ ∃ keys vals, M = .ownM ksB keys vals) (hH : H ≤ 1000) : lim F 96 [.bor [iv (row : Int), iv (fixed : Int), iv (H : Int), iv (b : Int), .bool t0, M], .bool t] = some (.agg [iv ((H : Int) - 1), iv 1, iv 0, .bool t], [.bor [iv (row : Int), iv (fixed : Int), iv (H : Int), iv (b : Int), .bool t, .ownM ksB [] []]]) := by
 rcases hM with rfl | ⟨keys, vals, rfl⟩
 ·refine lim_by (fn := a96) (k := 2) (res := [.cell 4 4 true]) rfl rfl rfl (by simp -implicitDefEqProofs (maxSteps := 2000000) (disch := first | exact tt_rfl rfl | omega | (simp only [go_sem] <;> omega) | fail) only [go_sem]) ?_
  simp -implicitDefEqProofs (maxSteps := 2000000) (disch := first | exact tt_rfl rfl | omega | (simp only [go_sem] <;> omega) | fail) only [go_sem]
  repeat (first | apply Wp.seqA | apply Wp.skipS | apply Wp.blockS | ((first | apply Wp.regS | apply Wp.condV | apply Wp.reg | apply Wp.condW | apply fin_ret); simp -implicitDefEqProofs (maxSteps := 2000000) (disch := first | exact tt_rfl rfl | omega | (simp only [go_sem] <;> omega) | fail) only [go_sem] <;> try with_reducible rfl) | apply Wp.block | apply Wp.exitS | apply Wp.retS | apply Wp.exit | apply Wp.ret | apply Wp.skip)
 ·refine lim_by (fn := a96) (k := 2) (res := [.cell 4 4 true]) rfl rfl rfl (by simp -implicitDefEqProofs (maxSteps := 2000000) (disch := first | exact tt_rfl rfl | omega | (simp only [go_sem] <;> omega) | fail) only [go_sem]) ?_
  simp -implicitDefEqProofs (maxSteps := 2000000) (disch := first | exact tt_rfl rfl | omega | (simp only [go_sem] <;> omega) | fail) only [go_sem]
  repeat (first | apply Wp.seqA | apply Wp.skipS | apply Wp.blockS | ((first | apply Wp.regS | apply Wp.condV | apply Wp.reg | apply Wp.condW | apply fin_ret); simp -implicitDefEqProofs (maxSteps := 2000000) (disch := first | exact tt_rfl rfl | omega | (simp only [go_sem] <;> omega) | fail) only [go_sem] <;> try with_reducible rfl) | apply Wp.block | apply Wp.exitS | apply Wp.retS | apply Wp.exit | apply Wp.ret | apply Wp.skip)
theorem cost_ok (row fixed H b h : Nat) (t v : Bool) (keys : List (List AV)) (vals : List AV) (hr : row < 9000000000000000000) (hf : fixed < 9000000000000000000) (hh : h < 60) : lim F 97 [.bor [iv (row : Int), iv (fixed : Int), iv (H : Int), iv (b : Int), .bool t, .ownM ksB keys vals], iv (h : Int), .bool v] = some (iv ((costN row fixed h v : Nat) : Int), [.bor [iv (row : Int), iv (fixed : Int), iv (H : Int), iv (b : Int), .bool t, .ownM ksB keys vals]]) := by
 have s1 := w_shr row h (by omega)
 have sb : row >>> h < 9223372036854775808 := by rw [Nat.shiftRight_eq_div_pow]; have := Nat.div_le_self row (2 ^ h); omega
 have s2 := w_and1 (row >>> h) sb
 have eb := bit_eq row h
 have s3 := w_shr fixed h (by omega)
 have sb2 : fixed >>> h < 9223372036854775808 := by rw [Nat.shiftRight_eq_div_pow]; have := Nat.div_le_self fixed (2 ^ h); omega
 have s4 := w_and1 (fixed >>> h) sb2
 have eb2 := bit_eq fixed h
 unfold costN
 generalize row.testBit h = rb at *
 generalize fixed.testBit h = fb at *
 generalize row >>> h &&& 1 = y1 at *
 generalize row >>> h = z1 at *
 generalize fixed >>> h &&& 1 = y2 at *
 generalize fixed >>> h = z2 at *
 cases rb <;> cases fb <;> cases v
 all_goals
  refine lim_by (fn := a97) (k := 3) (res := [.tmp 6]) rfl rfl rfl (by simp -implicitDefEqProofs (maxSteps := 2000000) (disch := first | exact tt_rfl rfl | omega | (simp only [go_sem] <;> omega) | fail) only [go_sem]) ?_
  simp -implicitDefEqProofs (maxSteps := 2000000) (disch := first | exact tt_rfl rfl | omega | (simp only [go_sem] <;> omega) | fail) only [go_sem]
  repeat (first | apply Wp.seqA | apply Wp.skipS | apply Wp.blockS | ((first | apply Wp.regS | apply Wp.condV | apply Wp.reg | apply Wp.condW | apply fin_ret); simp -implicitDefEqProofs (maxSteps := 2000000) (disch := first | exact tt_rfl rfl | omega | (simp only [go_sem] <;> omega) | fail) only [go_sem, s1, s2, s3, s4, eb, eb2, Int.toNat_natCast] <;> try with_reducible rfl) | apply Wp.block | apply Wp.exitS | apply Wp.retS | apply Wp.exit | apply Wp.ret | apply Wp.skip)
 all_goals rfl
theorem next_ok (row fixed H b n len first : Nat) (t up v : Bool) (keys : List (List AV)) (vals : List AV) (hl : len ≤ 1000) (hn : n ≤ 1000) : lim F 100 [.bor [iv (row : Int), iv (fixed : Int), iv (H : Int), iv (b : Int), .bool t, .ownM ksB keys vals], .agg [iv ((n + 1 : Nat) : Int), iv (len : Int), iv (first : Int), .bool up], .bool v] = some (.tuple [.agg [iv (n : Int), iv ((lenS len up v : Nat) : Int), iv ((firstS len first up v : Nat) : Int), .bool v], .bool (decide (lenS len up v ≤ b))], [.bor [iv (row : Int), iv (fixed : Int), iv (H : Int), iv (b : Int), .bool t, .ownM ksB keys vals]]) := by
 unfold lenS firstS
 have e1 : ((n + 1 : Nat) : Int) - 1 = (n : Int) := by omega
 have e2 : decide ((len : Int) + 1 ≤ (b : Int)) = decide (len + 1 ≤ b) := by rw [decide_eq_decide]; omega
 have e3 : decide ((1 : Int) ≤ (b : Int)) = decide (1 ≤ b) := by rw [decide_eq_decide]; omega
 by_cases hf : first = 0
 ·cases up <;> cases v
  all_goals
   refine lim_by (fn := a100) (k := 3) (res := [.cell 6 4 true, .tmp 7]) rfl rfl rfl (by simp -implicitDefEqProofs (maxSteps := 2000000) (disch := first | exact tt_rfl rfl | omega | (simp only [go_sem] <;> omega) | fail) only [go_sem]) ?_
   simp -implicitDefEqProofs (maxSteps := 2000000) (disch := first | exact tt_rfl rfl | omega | (simp only [go_sem] <;> omega) | fail) only [go_sem]
   repeat (first | apply Wp.seqA | apply Wp.skipS | apply Wp.blockS | ((first | apply Wp.regS | apply Wp.condV | apply Wp.reg | apply Wp.condW | apply fin_ret); simp -implicitDefEqProofs (maxSteps := 2000000) (disch := first | exact tt_rfl rfl | omega | (simp only [go_sem] <;> omega) | fail) only [go_sem, hf, e1, e2, e3] <;> try with_reducible rfl) | apply Wp.block | apply Wp.exitS | apply Wp.retS | apply Wp.exit | apply Wp.ret | apply Wp.skip)
  all_goals rfl
 ·have hf' : ¬ (first : Int) = 0 := by omega
  cases up <;> cases v
  all_goals
   refine lim_by (fn := a100) (k := 3) (res := [.cell 6 4 true, .tmp 7]) rfl rfl rfl (by simp -implicitDefEqProofs (maxSteps := 2000000) (disch := first | exact tt_rfl rfl | omega | (simp only [go_sem] <;> omega) | fail) only [go_sem]) ?_
   simp -implicitDefEqProofs (maxSteps := 2000000) (disch := first | exact tt_rfl rfl | omega | (simp only [go_sem] <;> omega) | fail) only [go_sem]
   repeat (first | apply Wp.seqA | apply Wp.skipS | apply Wp.blockS | ((first | apply Wp.regS | apply Wp.condV | apply Wp.reg | apply Wp.condW | apply fin_ret); simp -implicitDefEqProofs (maxSteps := 2000000) (disch := first | exact tt_rfl rfl | omega | (simp only [go_sem] <;> omega) | fail) only [go_sem, hf', e1, e2, e3] <;> try with_reducible rfl) | apply Wp.block | apply Wp.exitS | apply Wp.retS | apply Wp.exit | apply Wp.ret | apply Wp.skip)
  all_goals
   try simp only [hf, if_false, Bool.false_eq_true, Bool.true_eq_false, if_true, reduceCtorEq]
  all_goals rfl

/-- a map of what is known -/
structure MapOk (row fixed b : Nat) (top : Bool) (keys : List (List AV)) (vals : List AV) : Prop where
 len : keys.length = vals.length
 ent : ∀ (i : Nat) k, keys[i]? = some k → ∃ (n len first : Nat) (up : Bool), k = [iv (n : Int), iv (len : Int), iv (first : Int), .bool up] ∧ vals[i]? = some (iv ((leastT row fixed b top n len first up : Nat) : Int))
theorem MapOk.nil (row fixed b : Nat) (top : Bool) : MapOk row fixed b top [] [] where
 len := rfl
 ent := fun i k h => by simp at h
theorem eqK (n len first n' len' first' : Nat) (up up' : Bool) : eqCells ksB [iv (n : Int), iv (len : Int), iv (first : Int), .bool up] [iv (n' : Int), iv (len' : Int), iv (first' : Int), .bool up'] = some (decide (n = n' ∧ len = len' ∧ first = first' ∧ up = up')) := by
 simp only [go_sem, Int.ofNat_inj]
 congr 1
 by_cases h1 : n = n' <;> by_cases h2 : len = len' <;> by_cases h3 : first = first' <;> simp [h1, h2, h3]
theorem find_at {row fixed b : Nat} {top : Bool} (n len first : Nat) (up : Bool) : ∀ (keys : List (List AV)) (j : Nat), (∀ k ∈ keys, ∃ (n len first : Nat) (up : Bool), k = [iv (n : Int), iv (len : Int), iv (first : Int), .bool up]) →
  findS ksB [iv (n : Int), iv (len : Int), iv (first : Int), .bool up] keys j = some none ∨ ∃ i, findS ksB [iv (n : Int), iv (len : Int), iv (first : Int), .bool up] keys j = some (some (j + i)) ∧ keys[i]? = some [iv (n : Int), iv (len : Int), iv (first : Int), .bool up] := by
 intro keys
 induction keys with
 | nil => intro j _; exact .inl rfl
 | cons k keys ih =>
  intro j h
  obtain ⟨n', len', first', up', rfl⟩ := h k (by simp)
  have e := eqK n len first n' len' first' up up'
  by_cases hc : n = n' ∧ len = len' ∧ first = first' ∧ up = up'
  ·rw [decide_eq_true hc] at e
   obtain ⟨rfl, rfl, rfl, rfl⟩ := hc
   exact .inr ⟨0, by simp only [findS, e]; rfl, rfl⟩
  ·rw [decide_eq_false hc] at e
   rcases ih (j + 1) fun k hk => h k (by simp [hk]) with h1 | ⟨i, h1, h2⟩
   ·exact .inl (by simp only [findS, e]; exact h1)
   ·exact .inr ⟨i + 1, by simp only [findS, e]; rw [h1]; congr 2; omega, by simpa using h2⟩
theorem MapOk.find {row fixed b : Nat} {top : Bool} {keys : List (List AV)} {vals : List AV} (h : MapOk row fixed b top keys vals) (n len first : Nat) (up : Bool) :
  findS ksB [iv (n : Int), iv (len : Int), iv (first : Int), .bool up] keys 0 = some none ∨ ∃ i, findS ksB [iv (n : Int), iv (len : Int), iv (first : Int), .bool up] keys 0 = some (some i) ∧ vals[i]? = some (iv ((leastT row fixed b top n len first up : Nat) : Int)) := by
 rcases find_at (row := row) (fixed := fixed) (b := b) (top := top) n len first up keys 0 (fun k hk => by
  obtain ⟨i, hi, rfl⟩ := List.getElem_of_mem hk
  obtain ⟨a, b, c, d, e, _⟩ := h.ent i _ (List.getElem?_eq_getElem hi)
  exact ⟨a, b, c, d, e⟩) with h1 | ⟨i, h1, h2⟩
 ·exact .inl h1
 ·rw [Nat.zero_add] at h1
  obtain ⟨n', len', first', up', e, hv⟩ := h.ent i _ h2
  refine .inr ⟨i, h1, ?_⟩
  simp only [List.cons.injEq, AV.int.injEq, AV.bool.injEq, Int.ofNat_inj, true_and, and_true] at e
  obtain ⟨rfl, rfl, rfl, rfl⟩ := e
  exact hv
theorem MapOk.set {row fixed b : Nat} {top : Bool} {keys : List (List AV)} {vals : List AV} (h : MapOk row fixed b top keys vals) {i : Nat} {v : AV} (hv : vals[i]? = some v) : vals.set i v = vals := by
 apply List.ext_getElem?
 intro j
 rw [List.getElem?_set]
 split
 ·rename_i e
  subst e
  obtain ⟨hlt, _⟩ := List.getElem?_eq_some_iff.1 hv
  rw [if_pos hlt, hv]
 ·rfl
theorem MapOk.add {row fixed b : Nat} {top : Bool} {keys : List (List AV)} {vals : List AV} (h : MapOk row fixed b top keys vals) (n len first : Nat) (up : Bool) :
  MapOk row fixed b top (keys ++ [[iv (n : Int), iv (len : Int), iv (first : Int), .bool up]]) (vals ++ [iv ((leastT row fixed b top n len first up : Nat) : Int)]) where
 len := by simp [h.len]
 ent := fun i k hk => by
  have hl := h.len
  rw [List.getElem?_append] at hk
  split at hk
  ·rename_i hi
   obtain ⟨a, b, c, d, e, f⟩ := h.ent i k hk
   exact ⟨a, b, c, d, e, by rw [List.getElem?_append_left (by omega)]; exact f⟩
  ·rename_i hi
   have hk' : i - keys.length = 0 := by
    rcases Nat.eq_zero_or_pos (i - keys.length) with h0 | h0
    ·exact h0
    ·rw [List.getElem?_eq_none (by simp; omega)] at hk; cases hk
   rw [hk'] at hk
   simp only [List.getElem?_cons_zero, Option.some.injEq] at hk
   subst hk
   exact ⟨n, len, first, up, rfl, by rw [List.getElem?_append_right (by omega), show i - vals.length = 0 by omega]; rfl⟩

/-- the fewest changes after so many ways on -/
def bst (row fixed b : Nat) (t : Bool) (n len first : Nat) (up : Bool) : Nat → Nat
 | 0 => never
 | 1 => min never (optT row fixed b t n len first up false)
 | _ => min (min never (optT row fixed b t n len first up false)) (optT row fixed b t n len first up true)
theorem bst_succ (row fixed b : Nat) (t : Bool) (n len first : Nat) (up : Bool) {i : Nat} (hi : i < 2) : bst row fixed b t n len first up (i + 1) = min (bst row fixed b t n len first up i) (optT row fixed b t n len first up (decide (i = 1))) := by
 have : i = 0 ∨ i = 1 := by omega
 rcases this with rfl | rfl <;> rfl
theorem bst_le (row fixed b : Nat) (t : Bool) (n len first : Nat) (up : Bool) (i : Nat) : bst row fixed b t n len first up i ≤ never := by
 match i with
 | 0 => exact Nat.le_refl _
 | 1 => exact Nat.min_le_left _ _
 | i + 2 => exact Nat.le_trans (Nat.min_le_left _ _) (Nat.min_le_left _ _)
theorem firstS_le {len first m : Nat} {up v : Bool} (h1 : len ≤ m) (h2 : first ≤ m) : firstS len first up v ≤ m := by
 unfold firstS
 split
 ·exact h2
 ·split
  ·exact h1
  ·exact h2
theorem costN_le (row fixed h : Nat) (v : Bool) : costN row fixed h v ≤ never := by
 have hnv : never = 1048576 := rfl
 unfold costN
 split
 ·omega
 ·split <;> omega
theorem least_ok (row fixed H b : Nat) (t : Bool) (hr : row < 9000000000000000000) (hf : fixed < 9000000000000000000) (hb : b ≤ 24) : ∀ (n len first : Nat) (up : Bool) (keys : List (List AV)) (vals : List AV), n ≤ 24 → len ≤ 24 → first ≤ 24 → MapOk row fixed b t keys vals →
  ∃ r, lim F 98 [.bor [iv (row : Int), iv (fixed : Int), iv (H : Int), iv (b : Int), .bool t, .ownM ksB keys vals], .agg [iv (n : Int), iv (len : Int), iv (first : Int), .bool up]] = some r ∧ ∃ keys' vals', MapOk row fixed b t keys' vals' ∧ r = (iv ((leastT row fixed b t n len first up : Nat) : Int), [.bor [iv (row : Int), iv (fixed : Int), iv (H : Int), iv (b : Int), .bool t, .ownM ksB keys' vals']]) := by
 intro n
 induction n with
 | zero =>
  intro len first up keys vals _ hl hfi hM
  have fin : ∀ v : Nat, v = leastT row fixed b t 0 len first up → ∃ keys' vals', MapOk row fixed b t keys' vals' ∧ ((iv (v : Int), [.bor [iv (row : Int), iv (fixed : Int), iv (H : Int), iv (b : Int), .bool t, .ownM ksB keys vals]]) : AV × List AV) = (iv ((leastT row fixed b t 0 len first up : Nat) : Int), [.bor [iv (row : Int), iv (fixed : Int), iv (H : Int), iv (b : Int), .bool t, .ownM ksB keys' vals']]) := fun v hv => ⟨keys, vals, hM, by rw [hv]⟩
  by_cases h1 : first = 0
  ·subst h1
   refine lim_ex (fn := a98) (k := 2) (res := [.tmp 4]) rfl rfl rfl (by simp -implicitDefEqProofs (maxSteps := 2000000) (disch := first | exact tt_rfl rfl | omega | (simp only [go_sem] <;> omega) | fail) only [go_sem]) ?_
   simp -implicitDefEqProofs (maxSteps := 2000000) (disch := first | exact tt_rfl rfl | omega | (simp only [go_sem] <;> omega) | fail) only [go_sem]
   repeat (first | apply Wp.seqA | apply Wp.skipS | apply Wp.blockS | ((first | apply Wp.regS | apply Wp.condV | apply Wp.reg | apply Wp.condW | apply fin_ret); simp -implicitDefEqProofs (maxSteps := 2000000) (disch := first | exact tt_rfl rfl | omega | (simp only [go_sem] <;> omega) | fail) only [go_sem, Int.natCast_zero] <;> try with_reducible rfl) | apply Wp.block | apply Wp.exitS | apply Wp.retS | apply Wp.exit | apply Wp.ret | apply Wp.skip)
   refine finp_ret (r := (iv (never : Int), [.bor [iv (row : Int), iv (fixed : Int), iv (H : Int), iv (b : Int), .bool t, .ownM ksB keys vals]])) ?_ (fin never (by unfold leastT; rw [if_pos (.inl rfl)]))
   simp -implicitDefEqProofs (maxSteps := 2000000) (disch := first | exact tt_rfl rfl | omega | (simp only [go_sem] <;> omega) | fail) only [go_sem]
   rfl
  ·by_cases h2 : up = t
   ·by_cases h3 : b < len + first
    ·refine lim_ex (fn := a98) (k := 2) (res := [.tmp 4]) rfl rfl rfl (by simp -implicitDefEqProofs (maxSteps := 2000000) (disch := first | exact tt_rfl rfl | omega | (simp only [go_sem] <;> omega) | fail) only [go_sem]) ?_
     simp -implicitDefEqProofs (maxSteps := 2000000) (disch := first | exact tt_rfl rfl | omega | (simp only [go_sem] <;> omega) | fail) only [go_sem]
     repeat (first | apply Wp.seqA | apply Wp.skipS | apply Wp.blockS | ((first | apply Wp.regS | apply Wp.condV | apply Wp.reg | apply Wp.condW | apply fin_ret); simp -implicitDefEqProofs (maxSteps := 2000000) (disch := first | exact tt_rfl rfl | omega | (simp only [go_sem] <;> omega) | fail) only [go_sem, Int.natCast_zero, show ¬ (first : Int) = 0 by omega, h2, show (b : Int) < (len : Int) + (first : Int) by omega] <;> try with_reducible rfl) | apply Wp.block | apply Wp.exitS | apply Wp.retS | apply Wp.exit | apply Wp.ret | apply Wp.skip)
     refine finp_ret (r := (iv (never : Int), [.bor [iv (row : Int), iv (fixed : Int), iv (H : Int), iv (b : Int), .bool t, .ownM ksB keys vals]])) ?_ (fin never (by unfold leastT; rw [if_pos (.inr ⟨h2, h3⟩)]))
     simp -implicitDefEqProofs (maxSteps := 2000000) (disch := first | exact tt_rfl rfl | omega | (simp only [go_sem] <;> omega) | fail) only [go_sem]
     rfl
    ·refine lim_ex (fn := a98) (k := 2) (res := [.tmp 4]) rfl rfl rfl (by simp -implicitDefEqProofs (maxSteps := 2000000) (disch := first | exact tt_rfl rfl | omega | (simp only [go_sem] <;> omega) | fail) only [go_sem]) ?_
     simp -implicitDefEqProofs (maxSteps := 2000000) (disch := first | exact tt_rfl rfl | omega | (simp only [go_sem] <;> omega) | fail) only [go_sem]
     repeat (first | apply Wp.seqA | apply Wp.skipS | apply Wp.blockS | ((first | apply Wp.regS | apply Wp.condV | apply Wp.reg | apply Wp.condW | apply fin_ret); simp -implicitDefEqProofs (maxSteps := 2000000) (disch := first | exact tt_rfl rfl | omega | (simp only [go_sem] <;> omega) | fail) only [go_sem, Int.natCast_zero, show ¬ (first : Int) = 0 by omega, h2, show ¬ (b : Int) < (len : Int) + (first : Int) by omega] <;> try with_reducible rfl) | apply Wp.block | apply Wp.exitS | apply Wp.retS | apply Wp.exit | apply Wp.ret | apply Wp.skip)
     refine finp_ret (r := (iv (0 : Int), [.bor [iv (row : Int), iv (fixed : Int), iv (H : Int), iv (b : Int), .bool t, .ownM ksB keys vals]])) ?_ (fin 0 (by unfold leastT; rw [if_neg]; rintro (h | h); exact h1 h; exact h3 h.2))
     simp -implicitDefEqProofs (maxSteps := 2000000) (disch := first | exact tt_rfl rfl | omega | (simp only [go_sem] <;> omega) | fail) only [go_sem]
   ·have fin0 := fin 0 (by unfold leastT; rw [if_neg]; rintro (h | h); exact h1 h; exact h2 h.1)
    cases up <;> cases t
    ·exact absurd rfl h2
    ·refine lim_ex (fn := a98) (k := 2) (res := [.tmp 4]) rfl rfl rfl (by simp -implicitDefEqProofs (maxSteps := 2000000) (disch := first | exact tt_rfl rfl | omega | (simp only [go_sem] <;> omega) | fail) only [go_sem]) ?_
     simp -implicitDefEqProofs (maxSteps := 2000000) (disch := first | exact tt_rfl rfl | omega | (simp only [go_sem] <;> omega) | fail) only [go_sem]
     repeat (first | apply Wp.seqA | apply Wp.skipS | apply Wp.blockS | ((first | apply Wp.regS | apply Wp.condV | apply Wp.reg | apply Wp.condW | apply fin_ret); simp -implicitDefEqProofs (maxSteps := 2000000) (disch := first | exact tt_rfl rfl | omega | (simp only [go_sem] <;> omega) | fail) only [go_sem, Int.natCast_zero, show ¬ (first : Int) = 0 by omega, show (false == true) = false from rfl, show (true == false) = false from rfl] <;> try with_reducible rfl) | apply Wp.block | apply Wp.exitS | apply Wp.retS | apply Wp.exit | apply Wp.ret | apply Wp.skip)
     refine finp_ret (r := (iv ((0 : Nat) : Int), [.bor [iv (row : Int), iv (fixed : Int), iv (H : Int), iv (b : Int), .bool true, .ownM ksB keys vals]])) ?_ (by exact fin0)
     simp -implicitDefEqProofs (maxSteps := 2000000) (disch := first | exact tt_rfl rfl | omega | (simp only [go_sem] <;> omega) | fail) only [go_sem]
     rfl
    ·refine lim_ex (fn := a98) (k := 2) (res := [.tmp 4]) rfl rfl rfl (by simp -implicitDefEqProofs (maxSteps := 2000000) (disch := first | exact tt_rfl rfl | omega | (simp only [go_sem] <;> omega) | fail) only [go_sem]) ?_
     simp -implicitDefEqProofs (maxSteps := 2000000) (disch := first | exact tt_rfl rfl | omega | (simp only [go_sem] <;> omega) | fail) only [go_sem]
     repeat (first | apply Wp.seqA | apply Wp.skipS | apply Wp.blockS | ((first | apply Wp.regS | apply Wp.condV | apply Wp.reg | apply Wp.condW | apply fin_ret); simp -implicitDefEqProofs (maxSteps := 2000000) (disch := first | exact tt_rfl rfl | omega | (simp only [go_sem] <;> omega) | fail) only [go_sem, Int.natCast_zero, show ¬ (first : Int) = 0 by omega, show (false == true) = false from rfl, show (true == false) = false from rfl] <;> try with_reducible rfl) | apply Wp.block | apply Wp.exitS | apply Wp.retS | apply Wp.exit | apply Wp.ret | apply Wp.skip)
     refine finp_ret (r := (iv ((0 : Nat) : Int), [.bor [iv (row : Int), iv (fixed : Int), iv (H : Int), iv (b : Int), .bool false, .ownM ksB keys vals]])) ?_ (by exact fin0)
     simp -implicitDefEqProofs (maxSteps := 2000000) (disch := first | exact tt_rfl rfl | omega | (simp only [go_sem] <;> omega) | fail) only [go_sem]
     rfl
    ·exact absurd rfl h2
 | succ n ih =>
  intro len first up keys vals hn hl hfi hM
  have e0 : ¬ ((n + 1 : Nat) : Int) = 0 := by omega
  rcases hM.find (n + 1) len first up with hfd | ⟨i, hfd, hv⟩
  ·refine lim_ex (fn := a98) (k := 2) (res := [.tmp 4]) rfl rfl rfl (by simp -implicitDefEqProofs (maxSteps := 2000000) (disch := first | exact tt_rfl rfl | omega | (simp only [go_sem] <;> omega) | fail) only [go_sem]) ?_
   simp -implicitDefEqProofs (maxSteps := 2000000) (disch := first | exact tt_rfl rfl | omega | (simp only [go_sem] <;> omega) | fail) only [go_sem]
   repeat (first | apply Wp.seqA | apply Wp.skipS | apply Wp.blockS | ((first | apply Wp.regS | apply Wp.condV | apply Wp.reg | apply Wp.condW | apply fin_ret); simp -implicitDefEqProofs (maxSteps := 2000000) (disch := first | exact tt_rfl rfl | omega | (simp only [go_sem] <;> omega) | fail) only [go_sem, e0, hfd] <;> try with_reducible rfl) | apply Wp.block | apply Wp.exitS | apply Wp.retS | apply Wp.exit | apply Wp.ret | apply Wp.skip)
   apply Wp.loopN 2 (fun i fr => ∃ K V, MapOk row fixed b t K V ∧ fr = ⟨[(0, .ptr 200000 0 0), (3, .ptr 192 0 0), (7, iv ((bst row fixed b t n len first up i : Nat) : Int)), (50, .agg [.bool false, .bool true]), (51, iv (i : Int))], [(192, .box [iv ((n + 1 : Nat) : Int), iv (len : Int), iv (first : Int), .bool up]), (200000, .box [iv (row : Int), iv (fixed : Int), iv (H : Int), iv (b : Int), .bool t, .mapp 3500005]), (3500005, .mpS ksB K V)], [(200000, none)], 10000000⟩)
   ·simp -implicitDefEqProofs (maxSteps := 2000000) (disch := first | exact tt_rfl rfl | omega | (simp only [go_sem] <;> omega) | fail) only [go_sem, norm_eq, Ok.some]
    exact ⟨keys, vals, hM, rfl⟩
   rintro i fr hi ⟨K, V, hM', rfl⟩
   by_cases hi2 : i < 2
   ·have round : ∀ v : Bool, (v = decide (i = 1)) → ([AV.bool false, AV.bool true][i * 1]? = some (.bool v)) := fun v hv => by
     have : i = 0 ∨ i = 1 := by omega
     rcases this with rfl | rfl
     ·subst hv; rfl
     ·subst hv; rfl
    have hx := round _ rfl
    have hbs := bst_succ row fixed b t n len first up hi2
    generalize decide (i = 1) = v at *
    have hN := next_ok row fixed H b n len first t up v K V (by omega) (by omega)
    have hC := cost_ok row fixed H b n t v K V hr hf (by omega)
    have hfs : firstS len first up v ≤ 24 := firstS_le (by omega) (by omega)
    by_cases hlb : lenS len up v ≤ b
    ·obtain ⟨r, hL, K', V', hM2, rfl⟩ := ih (lenS len up v) (firstS len first up v) v K V (by omega) (by omega) hfs hM'
     have hle : leastT row fixed b t n (lenS len up v) (firstS len first up v) v ≤ 1048576 := leastT_le _ _ _ _ _ _ _ _
     have hco : costN row fixed n v ≤ 1048576 := costN_le _ _ _ _
     rw [decide_eq_true hlb] at hN
     have hmin : bst row fixed b t n len first up (i + 1) = min (bst row fixed b t n len first up i) (costN row fixed n v + leastT row fixed b t n (lenS len up v) (firstS len first up v) v) := by
      rw [hbs]; unfold optT; rw [if_pos hlb]
     have hb1 : bst row fixed b t n len first up i ≤ 1048576 := bst_le _ _ _ _ _ _ _ _ _
     generalize leastT row fixed b t n (lenS len up v) (firstS len first up v) v = lt at *
     generalize costN row fixed n v = co at *
     generalize bst row fixed b t n len first up (i + 1) = b1 at *
     generalize bst row fixed b t n len first up i = b0 at *
     generalize lenS len up v = l1 at *
     generalize firstS len first up v = f1 at *
     repeat (first | apply Wp.seqA | apply Wp.skipS | apply Wp.blockS | ((first | apply Wp.regS | apply Wp.condV | apply Wp.reg | apply Wp.condW | apply fin_ret); simp -implicitDefEqProofs (maxSteps := 2000000) (disch := first | exact tt_rfl rfl | omega | (simp only [go_sem] <;> omega) | fail) only [go_sem, hx, hN, hC, hL, show (i : Int) < 2 by omega, Int.toNat_natCast] <;> try with_reducible rfl) | apply Wp.block | apply Wp.exitS | apply Wp.retS | apply Wp.exit | apply Wp.ret | apply Wp.skip)
     apply round_next
     ·simp -implicitDefEqProofs (maxSteps := 2000000) (disch := first | exact tt_rfl rfl | omega | (simp only [go_sem] <;> omega) | fail) only [go_sem, norm_eq, Ok.some]; with_reducible rfl
     refine ⟨hi2, K', V', hM2, ?_⟩
     rw [hmin]
     rw [show ((min b0 (co + lt) : Nat) : Int) = min (b0 : Int) ((co : Int) + (lt : Int)) by omega]
     simp
    ·rw [decide_eq_false hlb] at hN
     have hmin : bst row fixed b t n len first up (i + 1) = bst row fixed b t n len first up i := by
      have := bst_le row fixed b t n len first up i
      rw [hbs]; unfold optT; rw [if_neg hlb]; omega
     rw [← hmin]
     generalize bst row fixed b t n len first up (i + 1) = b1 at *
     repeat (first | apply Wp.seqA | apply Wp.skipS | apply Wp.blockS | ((first | apply Wp.regS | apply Wp.condV | apply Wp.reg | apply Wp.condW | apply fin_ret); simp -implicitDefEqProofs (maxSteps := 2000000) (disch := first | exact tt_rfl rfl | omega | (simp only [go_sem] <;> omega) | fail) only [go_sem, hx, hN, show (i : Int) < 2 by omega, Int.toNat_natCast] <;> try with_reducible rfl) | apply Wp.block | apply Wp.exitS | apply Wp.retS | apply Wp.exit | apply Wp.ret | apply Wp.skip)
     apply round_next
     ·simp -implicitDefEqProofs (maxSteps := 2000000) (disch := first | exact tt_rfl rfl | omega | (simp only [go_sem] <;> omega) | fail) only [go_sem, norm_eq, Ok.some]; with_reducible rfl
     exact ⟨hi2, K, V, hM', by simp⟩
   ·obtain rfl : i = 2 := by omega
    have hb2 : bst row fixed b t n len first up 2 = leastT row fixed b t (n + 1) len first up := rfl
    rw [hb2]
    rcases hM'.find (n + 1) len first up with hfd' | ⟨i, hfd', hv⟩
    ·have hadd := hM'.add (n + 1) len first up
     generalize leastT row fixed b t (n + 1) len first up = lt at *
     repeat (first | apply Wp.seqA | apply Wp.skipS | apply Wp.blockS | ((first | apply Wp.regS | apply Wp.condV | apply Wp.reg | apply Wp.condW | apply fin_ret); simp -implicitDefEqProofs (maxSteps := 2000000) (disch := first | exact tt_rfl rfl | omega | (simp only [go_sem] <;> omega) | fail) only [go_sem, hfd'] <;> try with_reducible rfl) | apply Wp.block | apply Wp.exitS | apply Wp.retS | apply Wp.exit | apply Wp.ret | apply Wp.skip)
     refine finp_ret (r := (iv (lt : Int), [.bor [iv (row : Int), iv (fixed : Int), iv (H : Int), iv (b : Int), .bool t, .ownM ksB (K ++ [[iv ((n + 1 : Nat) : Int), iv (len : Int), iv (first : Int), .bool up]]) (V ++ [iv (lt : Int)])]])) ?_ ⟨_, _, hadd, rfl⟩
     simp -implicitDefEqProofs (maxSteps := 2000000) (disch := first | exact tt_rfl rfl | omega | (simp only [go_sem] <;> omega) | fail) only [go_sem]
    ·have hset := hM'.set hv
     generalize leastT row fixed b t (n + 1) len first up = lt at *
     repeat (first | apply Wp.seqA | apply Wp.skipS | apply Wp.blockS | ((first | apply Wp.regS | apply Wp.condV | apply Wp.reg | apply Wp.condW | apply fin_ret); simp -implicitDefEqProofs (maxSteps := 2000000) (disch := first | exact tt_rfl rfl | omega | (simp only [go_sem] <;> omega) | fail) only [go_sem, hfd', hset] <;> try with_reducible rfl) | apply Wp.block | apply Wp.exitS | apply Wp.retS | apply Wp.exit | apply Wp.ret | apply Wp.skip)
     refine finp_ret (r := (iv (lt : Int), [.bor [iv (row : Int), iv (fixed : Int), iv (H : Int), iv (b : Int), .bool t, .ownM ksB K V]])) ?_ ⟨_, _, hM', rfl⟩
     simp -implicitDefEqProofs (maxSteps := 2000000) (disch := first | exact tt_rfl rfl | omega | (simp only [go_sem] <;> omega) | fail) only [go_sem]
  ·refine lim_ex (fn := a98) (k := 2) (res := [.tmp 4]) rfl rfl rfl (by simp -implicitDefEqProofs (maxSteps := 2000000) (disch := first | exact tt_rfl rfl | omega | (simp only [go_sem] <;> omega) | fail) only [go_sem]) ?_
   simp -implicitDefEqProofs (maxSteps := 2000000) (disch := first | exact tt_rfl rfl | omega | (simp only [go_sem] <;> omega) | fail) only [go_sem]
   repeat (first | apply Wp.seqA | apply Wp.skipS | apply Wp.blockS | ((first | apply Wp.regS | apply Wp.condV | apply Wp.reg | apply Wp.condW | apply fin_ret); simp -implicitDefEqProofs (maxSteps := 2000000) (disch := first | exact tt_rfl rfl | omega | (simp only [go_sem] <;> omega) | fail) only [go_sem, e0, hfd, hv] <;> try with_reducible rfl) | apply Wp.block | apply Wp.exitS | apply Wp.retS | apply Wp.exit | apply Wp.ret | apply Wp.skip)
   refine finp_ret (r := (iv ((leastT row fixed b t (n + 1) len first up : Nat) : Int), [.bor [iv (row : Int), iv (fixed : Int), iv (H : Int), iv (b : Int), .bool t, .ownM ksB keys vals]])) ?_ ⟨keys, vals, hM, rfl⟩
   simp -implicitDefEqProofs (maxSteps := 2000000) (disch := first | exact tt_rfl rfl | omega | (simp only [go_sem] <;> omega) | fail) only [go_sem]
end Go.Abs
