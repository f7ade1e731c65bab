/-
 Chapter 1: the search along a row. No condition beyond those that each theorem names.
-/
import Derived.Test.YtkjlmfabhejbnaaB1
set_option linter.all false
namespace Go.Abs
set_option maxRecDepth 10000
set_option maxHeartbeats 4000000

@[go_sem] theorem exCell_nilmap (R : Nat → Option Row) : exCell R (.const (.map none)) = some ⟨.const (.map none), [], []⟩ := rfl
@[go_sem] theorem nilmap_cell : (Value.map none).oneCell' = true := rfl
def stB (H : Nat) (t : Bool) : List AV := [iv ((H : Int) - 1), iv 1, iv 0, .bool t]
def zB : List AV := [iv 0, iv 0, iv 0, .bool false]
/-- the search's state after so many first points -/
def sB (row fixed H b : Nat) : Nat → List AV
 | 0 => zB
 | 1 => if topT row fixed H b false < never then stB H false else zB
 | _ => if topT row fixed H b true < min never (topT row fixed H b false) then stB H true else if topT row fixed H b false < never then stB H false else zB
def cB (row fixed H b : Nat) : Nat → Nat
 | 0 => never
 | 1 => min never (topT row fixed H b false)
 | _ => min (min never (topT row fixed H b false)) (topT row fixed H b true)
theorem sB_is (row fixed H b i : Nat) : ∃ (a e : Int) (c : Bool), sB row fixed H b i = [iv a, iv e, iv 0, .bool c] := by
 have h1 : ∀ t, ∃ (a e : Int) (c : Bool), stB H t = [iv a, iv e, iv 0, .bool c] := fun t => ⟨_, _, _, rfl⟩
 have h0 : ∃ (a e : Int) (c : Bool), zB = [iv a, iv e, iv 0, .bool c] := ⟨_, _, _, rfl⟩
 unfold sB
 split
 ·exact h0
 ·split
  ·exact h1 _
  ·exact h0
 ·split
  ·exact h1 _
  ·split
   ·exact h1 _
   ·exact h0
theorem numW_cons (v : Bool) (w : List Bool) : numW (v :: w) = (if v then 2 ^ w.length else 0) + numW w := rfl
theorem bor1 (acc : Nat) (v : Bool) : acc * 2 ||| (if v then 1 else 0) = acc * 2 + if v then 1 else 0 := by
 cases v
 ·simp
 ·have := Nat.shiftLeft_add_eq_or_of_lt (show 1 < 2 ^ 1 by omega) acc
  rw [Nat.shiftLeft_eq] at this
  exact this.symm
theorem bind_ok (row fixed H b : Nat) (hr : row < 9000000000000000000) (hf : fixed < 9000000000000000000) (hb1 : 1 ≤ b) (hb : b ≤ 24) (hH1 : 1 ≤ H) (hH : H ≤ 24) :
  ∃ r, lim F 64 [.bor [iv (row : Int), iv (fixed : Int), iv (H : Int), iv (b : Int), .bool false, .const (.map none)]] = some r ∧ ∃ t K V, r = (.tuple [iv ((if never ≤ bindChg row fixed H b then 0 else bindRow row fixed H b : Nat) : Int), iv ((bindChg row fixed H b : Nat) : Int)], [.bor [iv (row : Int), iv (fixed : Int), iv (H : Int), iv (b : Int), .bool t, .ownM ksB K V]]) := by
 have hc2 : cB row fixed H b 2 = bindChg row fixed H b := by show min (min never _) _ = min never (min _ _); omega
 refine lim_ex (fn := a64) (k := 1) (res := [.tmp 2, .tmp 3]) rfl rfl rfl (by simp -implicitDefEqProofs (maxSteps := 2000000) (disch := first | exact tt_rfl rfl | omega | (simp only [go_sem] <;> omega) | fail) only [go_sem]) ?_
 simp -implicitDefEqProofs (maxSteps := 2000000) (disch := first | exact tt_rfl rfl | omega | (simp only [go_sem] <;> omega) | fail) only [go_sem]
 repeat (first | apply Wp.seqA | apply Wp.skipS | apply Wp.blockS | ((first | apply Wp.regS | apply Wp.condV | apply Wp.reg | apply Wp.condW | apply fin_ret); simp -implicitDefEqProofs (maxSteps := 2000000) (disch := first | exact tt_rfl rfl | omega | (simp only [go_sem] <;> omega) | fail) only [go_sem] <;> try with_reducible rfl) | apply Wp.block | apply Wp.exitS | apply Wp.retS | apply Wp.exit | apply Wp.ret | apply Wp.skip)
 apply Wp.loopN 2 (fun i fr => (i = 0 ∧ fr = ⟨[(0, .ptr 200000 0 0), (3, iv ((cB row fixed H b i : Nat) : Int)), (4, .ptr 256 0 0), (15, .agg [.bool false, .bool true]), (16, iv (i : Int))], [(256, .box (sB row fixed H b i)), (200000, .box [iv (row : Int), iv (fixed : Int), iv (H : Int), iv (b : Int), .bool false, .const (.map none)])], [(200000, none)], 10000000⟩) ∨
  (1 ≤ i ∧ ∃ t K V, fr = ⟨[(0, .ptr 200000 0 0), (3, iv ((cB row fixed H b i : Nat) : Int)), (4, .ptr 256 0 0), (15, .agg [.bool false, .bool true]), (16, iv (i : Int))], [(256, .box (sB row fixed H b i)), (200000, .box [iv (row : Int), iv (fixed : Int), iv (H : Int), iv (b : Int), .bool t, .mapp 3500005]), (3500005, .mpS ksB K V)], [(200000, none)], 10000000⟩))
 ·simp -implicitDefEqProofs (maxSteps := 2000000) (disch := first | exact tt_rfl rfl | omega | (simp only [go_sem] <;> omega) | fail) only [go_sem, norm_eq, Ok.some]
  first | rfl | exact .inl ⟨rfl, rfl⟩
 rintro i fr hi hS
 by_cases hi2 : i < 2
 ·have hx : [AV.bool false, AV.bool true][i * 1]? = some (.bool (decide (i = 1))) := by
   have : i = 0 ∨ i = 1 := by omega
   rcases this with rfl | rfl <;> rfl
  generalize hv : decide (i = 1) = v at *
  have hL := least_ok row fixed H b v hr hf hb (H - 1) 1 0 v [] [] (by omega) (by omega) (by omega) (MapOk.nil _ _ _ _)
  obtain ⟨r, hL, K', V', hM2, rfl⟩ := hL
  have hC := cost_ok row fixed H b (H - 1) v v [] [] hr hf (by omega)
  have eH : ((H - 1 : Nat) : Int) = (H : Int) - 1 := by omega
  have hle : leastT row fixed b v (H - 1) 1 0 v ≤ 1048576 := leastT_le _ _ _ _ _ _ _ _
  have hco : costN row fixed (H - 1) v ≤ 1048576 := costN_le _ _ _ _
  have htop : topT row fixed H b v = costN row fixed (H - 1) v + leastT row fixed b v (H - 1) 1 0 v := rfl
  have hcn : cB row fixed H b (i + 1) = min (cB row fixed H b i) (topT row fixed H b v) := by
   have : i = 0 ∨ i = 1 := by omega
   rcases this with rfl | rfl <;> subst hv <;> rfl
  have hsn : sB row fixed H b (i + 1) = if topT row fixed H b v < cB row fixed H b i then stB H v else sB row fixed H b i := by
   have : i = 0 ∨ i = 1 := by omega
   rcases this with rfl | rfl <;> subst hv <;> rfl
  obtain ⟨x1, x2, x3, hs0⟩ := sB_is row fixed H b i
  have hcl : cB row fixed H b i ≤ 1048576 := by
   match i with
   | 0 => exact Nat.le_refl _
   | 1 => exact Nat.min_le_left _ _
   | i + 2 => omega
  rw [eH] at hL hC
  rw [show ((1 : Nat) : Int) = 1 from rfl, show ((0 : Nat) : Int) = 0 from rfl] at hL
  rw [htop] at hcn hsn
  generalize leastT row fixed b v (H - 1) 1 0 v = lt at *
  generalize costN row fixed (H - 1) v = co at *
  generalize cB row fixed H b (i + 1) = c1 at *
  generalize cB row fixed H b i = c0 at *
  generalize sB row fixed H b (i + 1) = s1 at *
  rw [hs0] at hS hsn
  by_cases hlt : co + lt < c0
  ·rw [if_pos hlt] at hsn
   rcases hS with ⟨_, rfl⟩ | ⟨_, t, K, V, rfl⟩
   ·have hst := start_ok row fixed H b false v _ (.inl rfl) (by omega)
    repeat (first | apply Wp.seqA | apply Wp.skipS | apply Wp.blockS | ((first | apply Wp.regS | apply Wp.condV | apply Wp.reg | apply Wp.condW | apply fin_ret); simp -implicitDefEqProofs (maxSteps := 2000000) (disch := first | exact tt_rfl rfl | omega | (simp only [go_sem] <;> omega) | fail) only [go_sem, hx, hst, hC, hL, show (i : Int) < 2 by omega, Int.toNat_natCast, show (co : Int) + (lt : Int) < (c0 : Int) by omega] <;> try with_reducible rfl) | apply Wp.block | apply Wp.exitS | apply Wp.retS | apply Wp.exit | apply Wp.ret | apply Wp.skip)
    apply round_next
    ·simp -implicitDefEqProofs (maxSteps := 2000000) (disch := first | exact tt_rfl rfl | omega | (simp only [go_sem] <;> omega) | fail) only [go_sem, norm_eq, Ok.some]; with_reducible rfl
    refine ⟨hi2, .inr ⟨by omega, v, K', V', ?_⟩⟩
    rw [hsn, hcn, show min c0 (co + lt) = co + lt by omega]
    simp [stB, iv]
   ·have hst := start_ok row fixed H b t v _ (.inr ⟨K, V, rfl⟩) (by omega)
    repeat (first | apply Wp.seqA | apply Wp.skipS | apply Wp.blockS | ((first | apply Wp.regS | apply Wp.condV | apply Wp.reg | apply Wp.condW | apply fin_ret); simp -implicitDefEqProofs (maxSteps := 2000000) (disch := first | exact tt_rfl rfl | omega | (simp only [go_sem] <;> omega) | fail) only [go_sem, hx, hst, hC, hL, show (i : Int) < 2 by omega, Int.toNat_natCast, show (co : Int) + (lt : Int) < (c0 : Int) by omega] <;> try with_reducible rfl) | apply Wp.block | apply Wp.exitS | apply Wp.retS | apply Wp.exit | apply Wp.ret | apply Wp.skip)
    apply round_next
    ·simp -implicitDefEqProofs (maxSteps := 2000000) (disch := first | exact tt_rfl rfl | omega | (simp only [go_sem] <;> omega) | fail) only [go_sem, norm_eq, Ok.some]; with_reducible rfl
    refine ⟨hi2, .inr ⟨by omega, v, K', V', ?_⟩⟩
    rw [hsn, hcn, show min c0 (co + lt) = co + lt by omega]
    simp [stB, iv]
  ·rw [if_neg hlt] at hsn
   rcases hS with ⟨_, rfl⟩ | ⟨_, t, K, V, rfl⟩
   ·have hst := start_ok row fixed H b false v _ (.inl rfl) (by omega)
    repeat (first | apply Wp.seqA | apply Wp.skipS | apply Wp.blockS | ((first | apply Wp.regS | apply Wp.condV | apply Wp.reg | apply Wp.condW | apply fin_ret); simp -implicitDefEqProofs (maxSteps := 2000000) (disch := first | exact tt_rfl rfl | omega | (simp only [go_sem] <;> omega) | fail) only [go_sem, hx, hst, hC, hL, show (i : Int) < 2 by omega, Int.toNat_natCast, show ¬ (co : Int) + (lt : Int) < (c0 : Int) by omega] <;> try with_reducible rfl) | apply Wp.block | apply Wp.exitS | apply Wp.retS | apply Wp.exit | apply Wp.ret | apply Wp.skip)
    apply round_next
    ·simp -implicitDefEqProofs (maxSteps := 2000000) (disch := first | exact tt_rfl rfl | omega | (simp only [go_sem] <;> omega) | fail) only [go_sem, norm_eq, Ok.some]; with_reducible rfl
    refine ⟨hi2, .inr ⟨by omega, v, K', V', ?_⟩⟩
    rw [hsn, hcn, show min c0 (co + lt) = c0 by omega]
    simp
   ·have hst := start_ok row fixed H b t v _ (.inr ⟨K, V, rfl⟩) (by omega)
    repeat (first | apply Wp.seqA | apply Wp.skipS | apply Wp.blockS | ((first | apply Wp.regS | apply Wp.condV | apply Wp.reg | apply Wp.condW | apply fin_ret); simp -implicitDefEqProofs (maxSteps := 2000000) (disch := first | exact tt_rfl rfl | omega | (simp only [go_sem] <;> omega) | fail) only [go_sem, hx, hst, hC, hL, show (i : Int) < 2 by omega, Int.toNat_natCast, show ¬ (co : Int) + (lt : Int) < (c0 : Int) by omega] <;> try with_reducible rfl) | apply Wp.block | apply Wp.exitS | apply Wp.retS | apply Wp.exit | apply Wp.ret | apply Wp.skip)
    apply round_next
    ·simp -implicitDefEqProofs (maxSteps := 2000000) (disch := first | exact tt_rfl rfl | omega | (simp only [go_sem] <;> omega) | fail) only [go_sem, norm_eq, Ok.some]; with_reducible rfl
    refine ⟨hi2, .inr ⟨by omega, v, K', V', ?_⟩⟩
    rw [hsn, hcn, show min c0 (co + lt) = c0 by omega]
    simp
 ·obtain rfl : i = 2 := by omega
  rcases hS with ⟨h, _⟩ | ⟨_, t, K, V, rfl⟩
  ·omega
  rw [hc2]
  by_cases hnv : never ≤ bindChg row fixed H b
  ·rw [if_pos hnv]
   have hcn : bindChg row fixed H b = 1048576 := by
    have : bindChg row fixed H b ≤ never := Nat.min_le_left _ _
    have hnv' : never = 1048576 := rfl
    omega
   rw [hcn]
   obtain ⟨x1, x2, x3, hs0⟩ := sB_is row fixed H b 2
   rw [hs0]
   repeat (first | apply Wp.seqA | apply Wp.skipS | apply Wp.blockS | ((first | apply Wp.regS | apply Wp.condV | apply Wp.reg | apply Wp.condW | apply fin_ret); simp -implicitDefEqProofs (maxSteps := 2000000) (disch := first | exact tt_rfl rfl | omega | (simp only [go_sem] <;> omega) | fail) only [go_sem, show ((1048576 : Nat) : Int) = 1048576 from rfl] <;> try with_reducible rfl) | apply Wp.block | apply Wp.exitS | apply Wp.retS | apply Wp.exit | apply Wp.ret | apply Wp.skip)
   refine finp_ret (r := (.tuple [iv ((0 : Nat) : Int), iv ((1048576 : Nat) : Int)], [.bor [iv (row : Int), iv (fixed : Int), iv (H : Int), iv (b : Int), .bool t, .ownM ksB K V]])) ?_ (by exact ⟨t, K, V, rfl⟩)
   simp -implicitDefEqProofs (maxSteps := 2000000) (disch := first | exact tt_rfl rfl | omega | (simp only [go_sem] <;> omega) | fail) only [go_sem]
   rfl
  ·rw [if_neg hnv]
   have hs2 : sB row fixed H b 2 = stB H (bindTop row fixed H b) := by
    show (if topT row fixed H b true < min never (topT row fixed H b false) then stB H true else if topT row fixed H b false < never then stB H false else zB) = _
    unfold bindTop
    by_cases h1 : topT row fixed H b true < min never (topT row fixed H b false)
    ·rw [if_pos h1, decide_eq_true h1]
    ·rw [if_neg h1, decide_eq_false h1, if_pos]
     unfold bindChg at hnv
     omega
   rw [hs2]
   have ht : topT row fixed H b (bindTop row fixed H b) = bindChg row fixed H b := by
    unfold bindTop bindChg at *
    by_cases h1 : topT row fixed H b true < min never (topT row fixed H b false)
    ·rw [decide_eq_true h1]; omega
    ·rw [decide_eq_false h1]; omega
   have htop : topT row fixed H b (bindTop row fixed H b) = costN row fixed (H - 1) (bindTop row fixed H b) + leastT row fixed b (bindTop row fixed H b) (H - 1) 1 0 (bindTop row fixed H b) := rfl
   have hrow : bindRow row fixed H b = (if bindTop row fixed H b then 1 else 0) * 2 ^ (H - 1) + numW (greedyW row fixed b (bindTop row fixed H b) (H - 1) 1 0 (bindTop row fixed H b)) := by
    unfold bindRow topW
    rw [numW_cons, greedy_len]
    cases bindTop row fixed H b <;> simp
   have hlt0 : bindChg row fixed H b < 1048576 := by
    have hnv' : never = 1048576 := rfl
    omega
   generalize bindRow row fixed H b = R at *
   generalize bindChg row fixed H b = C at *
   generalize bindTop row fixed H b = q at *
   have hst := start_ok row fixed H b t q _ (.inr ⟨K, V, rfl⟩) (by omega)
   have hC := cost_ok row fixed H b (H - 1) q q [] [] hr hf (by omega)
   have eH : ((H - 1 : Nat) : Int) = (H : Int) - 1 := by omega
   have hbit := bit_ok q
   rw [eH] at hC
   have hl0 : leastT row fixed b q (H - 1) 1 0 q < 1048576 := by omega
   have hco : costN row fixed (H - 1) q ≤ 1048576 := costN_le _ _ _ _
   have hleft : (C : Int) - ((costN row fixed (H - 1) q : Nat) : Int) = ((leastT row fixed b q (H - 1) 1 0 q : Nat) : Int) := by omega
   clear ht htop hs2 hnv hc2
   generalize costN row fixed (H - 1) q = co0 at *
   unfold stB
   repeat (first | apply Wp.seqA | apply Wp.skipS | apply Wp.blockS | ((first | apply Wp.regS | apply Wp.condV | apply Wp.reg | apply Wp.condW | apply fin_ret); simp -implicitDefEqProofs (maxSteps := 2000000) (disch := first | exact tt_rfl rfl | omega | (simp only [go_sem] <;> omega) | fail) only [go_sem, hst, hC, hbit, hleft, show ¬ (1048576 : Int) ≤ (C : Int) by omega] <;> try with_reducible rfl) | apply Wp.block | apply Wp.exitS | apply Wp.retS | apply Wp.exit | apply Wp.ret | apply Wp.skip)
   apply Wp.loopN (H - 1) (fun k fr => ∃ (n len first acc : Nat) (up : Bool) (K : List (List AV)) (V : List AV), n + k = H - 1 ∧ len ≤ b ∧ first ≤ b ∧ acc < 2 ^ (k + 1) ∧ MapOk row fixed b q K V ∧ leastT row fixed b q n len first up < 1048576 ∧ R = acc * 2 ^ n + numW (greedyW row fixed b q n len first up) ∧
    fr = ⟨[(0, .ptr 200000 0 0), (2, iv (acc : Int)), (3, iv (C : Int)), (4, .ptr 256 0 0), (9, iv ((leastT row fixed b q n len first up : Nat) : Int))], [(256, .box [iv (n : Int), iv (len : Int), iv (first : Int), .bool up]), (200000, .box [iv (row : Int), iv (fixed : Int), iv (H : Int), iv (b : Int), .bool q, .mapp 3500005]), (3500005, .mpS ksB K V)], [(200000, none)], 10000000⟩)
   ·simp -implicitDefEqProofs (maxSteps := 2000000) (disch := first | exact tt_rfl rfl | omega | (simp only [go_sem] <;> omega) | fail) only [go_sem, norm_eq, Ok.some]
    refine ⟨H - 1, 1, 0, if q then 1 else 0, q, [], [], by omega, hb1, by omega, by cases q <;> simp, MapOk.nil _ _ _ _, hl0, hrow, ?_⟩
    rw [eH]
    cases q <;> rfl
   rintro k fr hk ⟨n, len, first, acc, up, K, V, hnk, hlb, hfb, hacc, hM, hlt, hR, rfl⟩
   by_cases hn0 : n = 0
   ·subst hn0
    have hRa : R = acc := by
     rw [hR]
     show acc * 1 + numW [] = acc
     simp [numW]
    rw [hRa]
    generalize leastT row fixed b q 0 len first up = lv at *
    repeat (first | apply Wp.seqA | apply Wp.skipS | apply Wp.blockS | ((first | apply Wp.regS | apply Wp.condV | apply Wp.reg | apply Wp.condW | apply fin_ret); simp -implicitDefEqProofs (maxSteps := 2000000) (disch := first | exact tt_rfl rfl | omega | (simp only [go_sem] <;> omega) | fail) only [go_sem, Int.natCast_zero, Int.lt_irrefl] <;> try with_reducible rfl) | apply Wp.block | apply Wp.exitS | apply Wp.retS | apply Wp.exit | apply Wp.ret | apply Wp.skip)
    refine finp_ret (r := (.tuple [iv (acc : Int), iv (C : Int)], [.bor [iv (row : Int), iv (fixed : Int), iv (H : Int), iv (b : Int), .bool q, .ownM ksB K V]])) ?_ (by exact ⟨q, K, V, rfl⟩)
    simp -implicitDefEqProofs (maxSteps := 2000000) (disch := first | exact tt_rfl rfl | omega | (simp only [go_sem] <;> omega) | fail) only [go_sem]
   ·obtain ⟨m, rfl⟩ : ∃ m, n = m + 1 := ⟨n - 1, by omega⟩
    have hch := choice_is (row := row) (fixed := fixed) (b := b) (top := q) (n := m) (len := len) (first := first) (up := up) hlt
    rw [greedy_succ, numW_cons, greedy_len] at hR
    have hnt : choice row fixed b q m len first up = true → ¬ (lenS len up false ≤ b ∧ costN row fixed m false + leastT row fixed b q m (lenS len up false) (firstS len first up false) false = leastT row fixed b q (m + 1) len first up) := fun h => by
     unfold choice at h
     simp only [Bool.not_eq_true', decide_eq_false_iff_not] at h
     exact h
    generalize choice row fixed b q m len first up = c at *
    generalize hLq : leastT row fixed b q (m + 1) len first up = L at *
    repeat (first | apply Wp.seqA | apply Wp.skipS | apply Wp.blockS | ((first | apply Wp.regS | apply Wp.condV | apply Wp.reg | apply Wp.condW | apply fin_ret); simp -implicitDefEqProofs (maxSteps := 2000000) (disch := first | exact tt_rfl rfl | omega | (simp only [go_sem] <;> omega) | fail) only [go_sem, show (0 : Int) < ((m + 1 : Nat) : Int) by omega] <;> try with_reducible rfl) | apply Wp.block | apply Wp.exitS | apply Wp.retS | apply Wp.exit | apply Wp.ret | apply Wp.skip)
    apply Wp.loopN 2 (fun i fr => i ≤ 1 ∧ (i = 1 → c = true) ∧ ∃ K V, MapOk row fixed b q K V ∧ fr = ⟨[(0, .ptr 200000 0 0), (2, iv (acc : Int)), (3, iv (C : Int)), (4, .ptr 256 0 0), (9, iv (L : Int)), (63, .agg [.bool false, .bool true]), (64, iv (i : Int))], [(256, .box [iv ((m + 1 : Nat) : Int), iv (len : Int), iv (first : Int), .bool up]), (200000, .box [iv (row : Int), iv (fixed : Int), iv (H : Int), iv (b : Int), .bool q, .mapp 3500005]), (3500005, .mpS ksB K V)], [(200000, none)], 10000000⟩)
    ·simp -implicitDefEqProofs (maxSteps := 2000000) (disch := first | exact tt_rfl rfl | omega | (simp only [go_sem] <;> omega) | fail) only [go_sem, norm_eq, Ok.some]
     exact ⟨fun h => h.elim, K, V, hM, rfl⟩
    rintro i fr hi ⟨hi1, hi2, K2, V2, hM2, rfl⟩
    have hx : [AV.bool false, AV.bool true][i * 1]? = some (.bool (decide (i = 1))) := by
     have : i = 0 ∨ i = 1 := by omega
     rcases this with rfl | rfl <;> rfl
    have e1 : ((m + 1 : Nat) : Int) - 1 = (m : Int) := by omega
    have hN := next_ok row fixed H b m len first q up (decide (i = 1)) K2 V2 (by omega) (by omega)
    have hCm := cost_ok row fixed H b m q (decide (i = 1)) K2 V2 hr hf (by omega)
    by_cases hvc : decide (i = 1) = c
    ·rw [hvc] at hx hN hCm
     obtain ⟨hlb2, heq⟩ := hch
     obtain ⟨r, hLs, K3, V3, hM3, rfl⟩ := least_ok row fixed H b q hr hf hb m (lenS len up c) (firstS len first up c) c K2 V2 (by omega) (by omega) (firstS_le (by omega) (by omega)) hM2
     have hle : leastT row fixed b q m (lenS len up c) (firstS len first up c) c ≤ 1048576 := leastT_le _ _ _ _ _ _ _ _
     have hco' : costN row fixed m c ≤ 1048576 := costN_le _ _ _ _
     have hfs : firstS len first up c ≤ b := firstS_le hlb hfb
     have hbt := bit_ok c
     have hor := bor1 acc c
     have hpk : 2 ^ (k + 1) ≤ 2 ^ 24 := Nat.pow_le_pow_right (by omega) (by omega)
     have w1 := w_shl acc 1 (by omega) (by omega)
     rw [show 2 ^ 1 = 2 from rfl] at w1
     have hbi : (if c then (1 : Int) else 0) = ((if c then 1 else 0 : Nat) : Int) := by cases c <;> rfl
     have hb01 : (if c then 1 else 0 : Nat) ≤ 1 := by cases c <;> simp
     rw [hbi] at hbt
     have w2 := w_or (acc * 2) (if c then 1 else 0) (by omega) (by omega)
     rw [hor] at w2
     have hpow : acc * 2 ^ (m + 1) + ((if c then 2 ^ m else 0) + numW (greedyW row fixed b q m (lenS len up c) (firstS len first up c) c)) = (acc * 2 + if c then 1 else 0) * 2 ^ m + numW (greedyW row fixed b q m (lenS len up c) (firstS len first up c) c) := by
      rw [Nat.pow_succ, Nat.add_mul, Nat.mul_assoc, Nat.mul_comm 2 (2 ^ m)]
      cases c <;> simp <;> omega
     rw [hpow] at hR
     rw [decide_eq_true hlb2] at hN
     have hlt2 : leastT row fixed b q m (lenS len up c) (firstS len first up c) c < 1048576 := by omega
     have hacc2 : acc * 2 + (if c then 1 else 0) < 2 ^ (k + 1 + 1) := by
      rw [Nat.pow_succ 2 (k + 1)]; omega
     generalize (if c then 1 else 0 : Nat) = bt at *
     have fin : ∃ (n len2 first2 acc2 : Nat) (up2 : Bool) (K : List (List AV)) (V : List AV), n + (k + 1) = H - 1 ∧ len2 ≤ b ∧ first2 ≤ b ∧ acc2 < 2 ^ (k + 1 + 1) ∧ MapOk row fixed b q K V ∧ leastT row fixed b q n len2 first2 up2 < 1048576 ∧ R = acc2 * 2 ^ n + numW (greedyW row fixed b q n len2 first2 up2) ∧
       n = m ∧ len2 = lenS len up c ∧ first2 = firstS len first up c ∧ up2 = c ∧ acc2 = acc * 2 + bt ∧ K = K3 ∧ V = V3 :=
      ⟨m, lenS len up c, firstS len first up c, acc * 2 + bt, c, K3, V3, by omega, hlb2, hfs, hacc2, hM3, hlt2, hR, rfl, rfl, rfl, rfl, rfl, rfl, rfl⟩
     clear hR hpow
     generalize lenS len up c = l1 at *
     generalize firstS len first up c = f1 at *
     generalize hlq : leastT row fixed b q m l1 f1 c = lt at *
     generalize costN row fixed m c = co at *
     have hsum : (co : Int) + (lt : Int) = (L : Int) := by omega
     have hdif : (L : Int) - (co : Int) = (lt : Int) := by omega
     repeat (first | apply Wp.seqA | apply Wp.skipS | apply Wp.blockS | ((first | apply Wp.regS | apply Wp.condV | apply Wp.reg | apply Wp.condW | apply fin_ret); simp -implicitDefEqProofs (maxSteps := 2000000) (disch := first | exact tt_rfl rfl | omega | (simp only [go_sem] <;> omega) | fail) only [go_sem, hx, hN, hCm, hLs, hbt, e1, w1, w2, hsum, hdif, show (i : Int) < 2 by omega, Int.toNat_natCast] <;> try with_reducible rfl) | apply Wp.block | apply Wp.exitS | apply Wp.retS | apply Wp.exit | apply Wp.ret | apply Wp.skip)
     change roundQ [0, 2, 3, 4, 9] _ (fun _ _ => False) AEx.normal _
     apply round_next (Q := fun _ _ => False)
     ·simp -implicitDefEqProofs (maxSteps := 2000000) (disch := first | exact tt_rfl rfl | omega | (simp only [go_sem] <;> omega) | fail) only [go_sem, norm_eq, Ok.some]; with_reducible rfl
     refine ⟨by omega, ?_⟩
     obtain ⟨n', l', f', a', u', K', V', g1, g2, g3, g4, g5, g6, g7, e1, e2, e3, e4, e5, e6, e7⟩ := fin
     refine ⟨n', l', f', a', u', K', V', g1, g2, g3, g4, g5, g6, g7, ?_⟩
     subst e1 e2 e3 e4 e5 e6 e7
     rw [hlq]
     try simp
    ·have hi0 : i = 0 := by
      rcases Nat.lt_or_ge i 1 with h | h
      ·omega
      ·have : i = 1 := by omega
       exact absurd (by rw [decide_eq_true this, hi2 this]) hvc
     subst hi0
     have hct : c = true := by
      cases c
      ·exact absurd rfl hvc
      ·rfl
     have hnc := hnt hct
     rw [show decide (0 = 1) = false from rfl] at hx hN hCm
     by_cases hlb2 : lenS len up false ≤ b
     ·obtain ⟨r, hLs, K3, V3, hM3, rfl⟩ := least_ok row fixed H b q hr hf hb m (lenS len up false) (firstS len first up false) false K2 V2 (by omega) (by omega) (firstS_le (by omega) (by omega)) hM2
      have hle : leastT row fixed b q m (lenS len up false) (firstS len first up false) false ≤ 1048576 := leastT_le _ _ _ _ _ _ _ _
      have hco' : costN row fixed m false ≤ 1048576 := costN_le _ _ _ _
      have hne : ¬ ((costN row fixed m false : Nat) : Int) + ((leastT row fixed b q m (lenS len up false) (firstS len first up false) false : Nat) : Int) = (L : Int) := fun h => hnc ⟨hlb2, by omega⟩
      rw [decide_eq_true hlb2] at hN
      generalize leastT row fixed b q m (lenS len up false) (firstS len first up false) false = lt at *
      generalize costN row fixed m false = co at *
      generalize lenS len up false = l1 at *
      generalize firstS len first up false = f1 at *
      repeat (first | apply Wp.seqA | apply Wp.skipS | apply Wp.blockS | ((first | apply Wp.regS | apply Wp.condV | apply Wp.reg | apply Wp.condW | apply fin_ret); simp -implicitDefEqProofs (maxSteps := 2000000) (disch := first | exact tt_rfl rfl | omega | (simp only [go_sem] <;> omega) | fail) only [go_sem, hx, hN, hCm, hLs, e1, hne, Int.natCast_zero, Int.toNat_natCast] <;> try with_reducible rfl) | apply Wp.block | apply Wp.exitS | apply Wp.retS | apply Wp.exit | apply Wp.ret | apply Wp.skip)
      apply round_next
      ·simp -implicitDefEqProofs (maxSteps := 2000000) (disch := first | exact tt_rfl rfl | omega | (simp only [go_sem] <;> omega) | fail) only [go_sem, norm_eq, Ok.some]; with_reducible rfl
      refine ⟨by omega, by omega, fun _ => hct, K3, V3, hM3, ?_⟩
      simp
     ·rw [decide_eq_false hlb2] at hN
      generalize costN row fixed m false = co at *
      repeat (first | apply Wp.seqA | apply Wp.skipS | apply Wp.blockS | ((first | apply Wp.regS | apply Wp.condV | apply Wp.reg | apply Wp.condW | apply fin_ret); simp -implicitDefEqProofs (maxSteps := 2000000) (disch := first | exact tt_rfl rfl | omega | (simp only [go_sem] <;> omega) | fail) only [go_sem, hx, hN, hCm, e1, Int.natCast_zero, Int.toNat_natCast] <;> try with_reducible rfl) | apply Wp.block | apply Wp.exitS | apply Wp.retS | apply Wp.exit | apply Wp.ret | apply Wp.skip)
      apply round_next
      ·simp -implicitDefEqProofs (maxSteps := 2000000) (disch := first | exact tt_rfl rfl | omega | (simp only [go_sem] <;> omega) | fail) only [go_sem, norm_eq, Ok.some]; with_reducible rfl
      refine ⟨by omega, by omega, fun _ => hct, K2, V2, hM2, ?_⟩
      simp
end Go.Abs
